/- The functions of the program as the interpreter's code, part 0; each is what the program's text gives. No condition. -/
import Derived.Test.YtjlckbphpmogjaaGreatDoorProg
import Derived.Test.YtjlckbphpmogjaaGreatDoorSpVE
import Derived.KernelRfl
namespace Go.Proofs.YtjlckbphpmogjaaGreatDoor
open Go.Vi

def v5 : VC :=
 .seq (.reg [⟨some 2, none, .mv (.c (.b false))⟩])
 (.seq (.seq (.reg [⟨some 14, none, .call 18 []⟩,⟨some 15, none, .un .not (.t 14)⟩])
 (.cond (.t 15) (.seq (.reg [⟨some 2, none, .mv (.c (.b false))⟩])
 (.ret))
 (.skip)))
 (.seq (.reg [⟨some 17, none, .bsl 1 5 [(.i .u8 0), (.i .u8 0), (.i .u8 0), (.i .u8 0), (.i .u8 0)] [(0, 1, (.c (.i .u8 40))), (1, 1, (.c (.i .u8 97))), (2, 1, (.c (.i .u8 41))), (3, 1, (.c (.i .u8 98))), (4, 1, (.c (.i .u8 42)))]⟩,⟨some 18, none, .cvm (.t 17)⟩,⟨some 19, none, .bsl 1 2 [(.i .u8 0), (.i .u8 0)] [(0, 1, (.c (.i .u8 97))), (1, 1, (.c (.i .u8 98)))]⟩,⟨some 20, none, .cvm (.t 19)⟩,⟨some 21, none, .build [(.i .i64 0), (.i .i64 0), (.i .i64 0), (.i .i64 0)] [(0, 1, (.c (.i .i64 99))), (1, 1, (.c (.i .i64 9))), (2, 1, (.c (.i .i64 999))), (3, 1, (.c (.i .i64 4)))]⟩,⟨some 22, none, .call 19 [(.t 18), (.t 20), (.t 21)]⟩,⟨some 16, none, .mv (.t 22)⟩,⟨some 23, none, .ext (.t 16) 0⟩,⟨some 24, none, .ext (.t 16) 1⟩,⟨some 3, none, .mv (.t 23)⟩,⟨some 4, none, .mv (.t 24)⟩])
 (.seq (.seq (.reg [⟨some 25, none, .mv (.t 3)⟩,⟨some 26, none, .eqn .p false (.t 25) (.c (.p none))⟩,⟨some 27, none, .mv (.t 26)⟩,⟨some 28, some (27, false), .mv (.t 0)⟩,⟨some 29, some (27, false), .len 1 (.t 28)⟩,⟨some 30, some (27, false), .bin .gtr (.t 29) (.c (.i .i64 30))⟩,⟨some 31, none, .pick (.t 27) (.c (.b true)) (.t 30)⟩])
 (.cond (.t 31) (.seq (.reg [⟨some 32, none, .mv (.t 3)⟩,⟨some 33, none, .eqn .p true (.t 32) (.c (.p none))⟩,⟨some 2, none, .mv (.t 33)⟩])
 (.ret))
 (.skip)))
 (.seq (.reg [⟨some 5, none, .mv (.c (.i .i64 0))⟩])
 (.seq (.seq (.reg [⟨some 34, none, .mv (.t 0)⟩,⟨some 35, none, .len 1 (.t 34)⟩,⟨some 36, none, .mv (.c (.i .i64 0))⟩])
 (.blk 0 (.loop (.seq (.reg [⟨some 37, none, .bin .lss (.t 36) (.t 35)⟩])
 (.seq (.cond (.t 37) (.skip)
 (.exit 0))
 (.seq (.blk 1 (.seq (.reg [⟨some 38, none, .ia 2 (.t 34) (.t 36)⟩,⟨some 39, none, .ldn 2 (.t 38)⟩,⟨some 7, none, .alloc 31 [(.i .i64 0), (.i .i64 0)]⟩,⟨none, none, .st 2 (.t 7) (.t 39)⟩])
 (.seq (.reg [⟨some 41, none, .mv (.t 3)⟩,⟨some 42, none, .ldn 2 (.t 7)⟩,⟨some 43, none, .build [(.i .i64 0), (.i .i64 0), (.i .i64 0), (.i .i64 0)] [(0, 1, (.c (.i .i64 7))), (2, 2, (.t 42))]⟩,⟨some 44, none, .call 20 [(.t 41), (.t 43)]⟩,⟨some 40, none, .mv (.t 44)⟩,⟨some 45, none, .ext (.t 40) 0⟩,⟨some 46, none, .ext (.t 40) 1⟩,⟨some 8, none, .mv (.t 45)⟩,⟨some 9, none, .mv (.t 46)⟩])
 (.seq (.seq (.reg [⟨some 47, none, .mv (.t 9)⟩,⟨some 48, none, .bin .neq (.t 47) (.c (.i .i64 0))⟩])
 (.cond (.t 48) (.exit 1)
 (.skip)))
 (.seq (.reg [⟨some 49, none, .mv (.t 5)⟩,⟨some 50, none, .bin .add (.t 49) (.c (.i .i64 1))⟩,⟨some 5, none, .mv (.t 50)⟩])
 (.seq (.regd [⟨some 51, none, .mv (.t 8)⟩,⟨some 52, none, .len 1 (.t 51)⟩,⟨some 53, none, .mv (.t 5)⟩,⟨some 54, none, .bin .neq (.t 52) (.t 53)⟩,⟨some 55, none, .mv (.t 54)⟩,⟨some 56, some (55, false), .mv (.t 8)⟩,⟨some 57, some (55, false), .mv (.t 5)⟩,⟨some 58, some (55, false), .bin .sub (.t 57) (.c (.i .i64 1))⟩,⟨some 59, some (55, false), .ia 1 (.t 56) (.t 58)⟩,⟨some 60, some (55, false), .ld (.t 59)⟩,⟨some 61, some (55, false), .mv (.t 5)⟩,⟨some 62, some (55, false), .bin .sub (.t 61) (.c (.i .i64 1))⟩,⟨some 63, some (55, false), .call 12 [(.t 62)]⟩,⟨some 64, some (55, false), .bin .add (.t 63) (.c (.s ⟨#[32]⟩))⟩,⟨some 65, some (55, false), .ldn 2 (.t 7)⟩,⟨some 66, some (55, false), .call 13 [(.t 65)]⟩,⟨some 67, some (55, false), .bin .add (.t 64) (.t 66)⟩,⟨some 68, some (55, false), .bin .neq (.t 60) (.t 67)⟩,⟨some 69, none, .pick (.t 55) (.c (.b true)) (.t 68)⟩] [(9, 12), (9, 15), (14, 12)])
 (.cond (.t 69) (.seq (.reg [⟨some 2, none, .mv (.c (.b false))⟩])
 (.ret))
 (.skip))))))))
 (.reg [⟨some 70, none, .bin .add (.t 36) (.c (.i .i64 1))⟩,⟨some 36, none, .mv (.t 70)⟩])))))))
 (.seq (.blk 2 (.loop (.seq (.seq (.reg [⟨some 71, none, .mv (.t 5)⟩,⟨some 72, none, .bin .gtr (.t 71) (.c (.i .i64 0))⟩])
 (.cond (.t 72) (.skip)
 (.exit 2)))
 (.seq (.blk 3 (.seq (.reg [⟨some 76, none, .mv (.t 3)⟩,⟨some 77, none, .build [(.i .i64 0), (.i .i64 0), (.i .i64 0), (.i .i64 0)] [(0, 1, (.c (.i .i64 8)))]⟩,⟨some 78, none, .call 20 [(.t 76), (.t 77)]⟩,⟨some 75, none, .mv (.t 78)⟩,⟨some 79, none, .ext (.t 75) 0⟩,⟨some 80, none, .ext (.t 75) 1⟩,⟨some 10, none, .mv (.t 79)⟩,⟨some 11, none, .mv (.t 80)⟩])
 (.seq (.reg [⟨some 81, none, .mv (.t 11)⟩,⟨some 82, none, .bin .neq (.t 81) (.c (.i .i64 0))⟩,⟨some 83, none, .mv (.t 82)⟩,⟨some 84, some (83, false), .mv (.t 10)⟩,⟨some 85, some (83, false), .len 1 (.t 84)⟩,⟨some 86, some (83, false), .mv (.t 5)⟩,⟨some 87, some (83, false), .bin .sub (.t 86) (.c (.i .i64 1))⟩,⟨some 88, some (83, false), .bin .neq (.t 85) (.t 87)⟩,⟨some 89, none, .pick (.t 83) (.c (.b true)) (.t 88)⟩])
 (.cond (.t 89) (.seq (.reg [⟨some 2, none, .mv (.c (.b false))⟩])
 (.ret))
 (.skip)))))
 (.reg [⟨some 73, none, .mv (.t 5)⟩,⟨some 74, none, .bin .sub (.t 73) (.c (.i .i64 1))⟩,⟨some 5, none, .mv (.t 74)⟩])))))
 (.seq (.reg [⟨some 91, none, .mv (.t 3)⟩,⟨some 92, none, .call 21 [(.t 91)]⟩,⟨some 90, none, .mv (.t 92)⟩,⟨some 93, none, .ext (.t 90) 0⟩,⟨some 94, none, .ext (.t 90) 1⟩,⟨some 12, none, .alloc 60 [(.i .i64 0), (.i .i64 0), (.i .i64 0), (.i .i64 0), (.i .i64 0), (.i .i64 0), (.i .i64 0), (.sl none 0 0 true)]⟩,⟨none, none, .st 8 (.t 12) (.t 93)⟩,⟨some 13, none, .mv (.t 94)⟩])
 (.seq (.reg [⟨some 95, none, .mv (.t 13)⟩,⟨some 96, none, .bin .eql (.t 95) (.c (.i .i64 0))⟩,⟨some 97, none, .mv (.t 96)⟩,⟨some 98, some (97, true), .fa 0 (.t 12)⟩,⟨some 99, some (97, true), .ld (.t 98)⟩,⟨some 100, some (97, true), .bin .eql (.t 99) (.c (.i .i64 1))⟩,⟨some 101, none, .pick (.t 97) (.t 100) (.c (.b false))⟩,⟨some 102, none, .mv (.t 101)⟩,⟨some 103, some (102, true), .mv (.t 3)⟩,⟨some 104, some (102, true), .call 10 [(.t 103)]⟩,⟨some 105, some (102, true), .len 1 (.t 104)⟩,⟨some 106, some (102, true), .bin .eql (.t 105) (.c (.i .i64 0))⟩,⟨some 107, none, .pick (.t 102) (.t 106) (.c (.b false))⟩,⟨some 2, none, .mv (.t 107)⟩])
 (.ret)))))))))
theorem fn5 : F 5 = .go 108 [.t 2] v5 := by rw [F, fnOf, Tryz.func5]; kernel_rfl

def v9 : VC :=
 .seq (.reg [⟨some 3, none, .box 2 (.t 1)⟩,⟨some 4, none, .mv (.c (.i .i64 0))⟩])
 (.seq (.blk 0 (.seq (.regd [⟨some 6, none, .ldn 2 (.t 3)⟩,⟨some 7, none, .mv (.t 0)⟩,⟨some 8, none, .nc (.t 7)⟩,⟨some 9, none, .fa 0 (.t 8)⟩,⟨some 10, none, .ld (.t 9)⟩,⟨some 11, none, .nc (.t 10)⟩,⟨some 12, none, .fa 1 (.t 11)⟩,⟨some 13, none, .ldn 3 (.t 12)⟩,⟨some 14, none, .call 33 [(.t 6), (.t 13)]⟩,⟨some 15, none, .un .not (.t 14)⟩,⟨some 5, none, .mv (.t 15)⟩] [])
 (.cond (.t 5) (.seq (.reg [⟨some 4, none, .mv (.c (.i .i64 11))⟩])
 (.ret))
 (.seq (.regd [⟨some 17, none, .mv (.t 0)⟩,⟨some 18, none, .nc (.t 17)⟩,⟨some 19, none, .fa 10 (.t 18)⟩,⟨some 20, none, .ld (.t 19)⟩,⟨some 21, none, .ldn 2 (.t 3)⟩,⟨some 22, none, .call 34 [(.t 20), (.t 21)]⟩,⟨some 16, none, .mv (.t 22)⟩] [])
 (.cond (.t 16) (.seq (.reg [⟨some 4, none, .mv (.c (.i .i64 37))⟩])
 (.ret))
 (.seq (.reg [⟨some 24, none, .mv (.t 0)⟩,⟨some 25, none, .nc (.t 24)⟩,⟨some 26, none, .fa 10 (.t 25)⟩,⟨some 27, none, .ld (.t 26)⟩,⟨some 28, none, .len 1 (.t 27)⟩,⟨some 29, none, .bin .geq (.t 28) (.c (.i .i64 64))⟩,⟨some 23, none, .mv (.t 29)⟩])
 (.cond (.t 23) (.seq (.reg [⟨some 4, none, .mv (.c (.i .i64 13))⟩])
 (.ret))
 (.skip))))))))
 (.seq (.regd [⟨some 30, none, .mv (.t 0)⟩,⟨some 31, none, .mv (.t 0)⟩,⟨some 32, none, .nc (.t 31)⟩,⟨some 33, none, .fa 10 (.t 32)⟩,⟨some 34, none, .ld (.t 33)⟩,⟨some 35, none, .ldn 2 (.t 3)⟩,⟨some 36, none, .bsl 2 1 [(.i .i64 0), (.i .i64 0)] [(0, 2, (.t 35))]⟩,⟨some 37, none, .app ⟨2, (some 31)⟩ 16 (.t 34) (.t 36)⟩,⟨some 38, none, .nc (.t 30)⟩,⟨some 39, none, .fa 10 (.t 38)⟩,⟨none, none, .st 1 (.t 39) (.t 37)⟩] [(4, 6)])
 (.seq (.reg [⟨some 4, none, .mv (.c (.i .i64 0))⟩])
 (.ret))))
theorem fn9 : F 9 = .go 40 [.t 4] v9 := by rw [F, fnOf, Tryz.func9]; kernel_rfl

def v10 : VC :=
 .seq (.reg [⟨some 2, none, .mv (.c (.sl none 0 0 true))⟩])
 (.seq (.reg [⟨some 3, none, .mv (.t 0)⟩,⟨some 4, none, .nc (.t 3)⟩,⟨some 5, none, .fa 10 (.t 4)⟩,⟨some 6, none, .ld (.t 5)⟩,⟨some 7, none, .call 35 [(.t 6)]⟩,⟨some 2, none, .mv (.t 7)⟩])
 (.ret))
theorem fn10 : F 10 = .go 8 [.t 2] v10 := by rw [F, fnOf, Tryz.func10]; kernel_rfl

def v12 : VC :=
 .seq (.reg [⟨some 2, none, .mv (.c (.s ⟨#[]⟩))⟩])
 (.seq (.seq (.reg [⟨some 3, none, .mv (.t 0)⟩,⟨some 4, none, .bin .lss (.t 3) (.c (.i .i64 0))⟩])
 (.cond (.t 4) (.seq (.seq (.reg [⟨some 5, none, .mv (.t 0)⟩,⟨some 6, none, .bin .leq (.t 5) (.c (.i .i64 (-10)))⟩])
 (.cond (.t 6) (.seq (.reg [⟨some 7, none, .mv (.t 0)⟩,⟨some 8, none, .bin .quo (.t 7) (.c (.i .i64 10))⟩,⟨some 9, none, .un .neg (.t 8)⟩,⟨some 10, none, .call 12 [(.t 9)]⟩,⟨some 11, none, .bin .add (.c (.s ⟨#[45]⟩)) (.t 10)⟩,⟨some 12, none, .mv (.t 0)⟩,⟨some 13, none, .bin .rem (.t 12) (.c (.i .i64 10))⟩,⟨some 14, none, .un .neg (.t 13)⟩,⟨some 15, none, .call 12 [(.t 14)]⟩,⟨some 16, none, .bin .add (.t 11) (.t 15)⟩,⟨some 2, none, .mv (.t 16)⟩])
 (.ret))
 (.skip)))
 (.seq (.reg [⟨some 17, none, .mv (.t 0)⟩,⟨some 18, none, .un .neg (.t 17)⟩,⟨some 19, none, .call 12 [(.t 18)]⟩,⟨some 20, none, .bin .add (.c (.s ⟨#[45]⟩)) (.t 19)⟩,⟨some 2, none, .mv (.t 20)⟩])
 (.ret)))
 (.skip)))
 (.seq (.seq (.reg [⟨some 21, none, .mv (.t 0)⟩,⟨some 22, none, .bin .lss (.t 21) (.c (.i .i64 10))⟩])
 (.cond (.t 22) (.seq (.reg [⟨some 23, none, .mv (.t 0)⟩,⟨some 24, none, .bin .add (.c (.i .i64 48)) (.t 23)⟩,⟨some 25, none, .cvi .u8 (.t 24)⟩,⟨some 26, none, .bsl 1 1 [(.i .u8 0)] [(0, 1, (.t 25))]⟩,⟨some 27, none, .cvs (.t 26)⟩,⟨some 2, none, .mv (.t 27)⟩])
 (.ret))
 (.skip)))
 (.seq (.reg [⟨some 28, none, .mv (.t 0)⟩,⟨some 29, none, .bin .quo (.t 28) (.c (.i .i64 10))⟩,⟨some 30, none, .call 12 [(.t 29)]⟩,⟨some 31, none, .mv (.t 0)⟩,⟨some 32, none, .bin .rem (.t 31) (.c (.i .i64 10))⟩,⟨some 33, none, .call 12 [(.t 32)]⟩,⟨some 34, none, .bin .add (.t 30) (.t 33)⟩,⟨some 2, none, .mv (.t 34)⟩])
 (.ret))))
theorem fn12 : F 12 = .go 35 [.t 2] v12 := by rw [F, fnOf, Tryz.func12]; kernel_rfl

def v13 : VC :=
 .seq (.reg [⟨some 1, none, .box 2 (.t 0)⟩,⟨some 2, none, .mv (.c (.s ⟨#[]⟩))⟩])
 (.seq (.reg [⟨some 4, none, .fa 1 (.t 1)⟩,⟨some 5, none, .ld (.t 4)⟩,⟨some 6, none, .call 37 [(.t 5)]⟩,⟨some 3, none, .mv (.t 6)⟩])
 (.seq (.seq (.reg [⟨some 7, none, .fa 0 (.t 1)⟩,⟨some 8, none, .ld (.t 7)⟩,⟨some 9, none, .bin .eql (.t 8) (.c (.i .i64 3))⟩,⟨some 10, none, .mv (.t 9)⟩,⟨some 11, some (10, true), .fa 1 (.t 1)⟩,⟨some 12, some (10, true), .ld (.t 11)⟩,⟨some 13, some (10, true), .call 38 [(.t 12)]⟩,⟨some 14, some (10, true), .bin .neq (.t 13) (.c (.s ⟨#[]⟩))⟩,⟨some 15, none, .pick (.t 10) (.t 14) (.c (.b false))⟩])
 (.cond (.t 15) (.reg [⟨some 16, none, .fa 1 (.t 1)⟩,⟨some 17, none, .ld (.t 16)⟩,⟨some 18, none, .call 38 [(.t 17)]⟩,⟨some 3, none, .mv (.t 18)⟩])
 (.skip)))
 (.seq (.reg [⟨some 19, none, .fa 0 (.t 1)⟩,⟨some 20, none, .ld (.t 19)⟩,⟨some 21, none, .call 39 [(.t 20)]⟩,⟨some 22, none, .bin .add (.t 21) (.c (.s ⟨#[32]⟩))⟩,⟨some 23, none, .mv (.t 3)⟩,⟨some 24, none, .bin .add (.t 22) (.t 23)⟩,⟨some 2, none, .mv (.t 24)⟩])
 (.ret))))
theorem fn13 : F 13 = .go 25 [.t 2] v13 := by rw [F, fnOf, Tryz.func13]; kernel_rfl

def v14 : VC :=
 .seq (.reg [⟨some 1, none, .box 6 (.t 0)⟩,⟨some 2, none, .mv (.c (.s ⟨#[]⟩))⟩])
 (.seq (.regd [⟨some 4, none, .fa 0 (.t 1)⟩,⟨some 5, none, .ld (.t 4)⟩,⟨some 6, none, .call 40 [(.t 5)]⟩,⟨some 7, none, .fa 1 (.t 1)⟩,⟨some 8, none, .ld (.t 7)⟩,⟨some 9, none, .call 37 [(.t 8)]⟩,⟨some 10, none, .fa 2 (.t 1)⟩,⟨some 11, none, .ld (.t 10)⟩,⟨some 12, none, .call 37 [(.t 11)]⟩,⟨some 13, none, .fa 3 (.t 1)⟩,⟨some 14, none, .ld (.t 13)⟩,⟨some 15, none, .call 37 [(.t 14)]⟩,⟨some 16, none, .fa 4 (.t 1)⟩,⟨some 17, none, .ld (.t 16)⟩,⟨some 18, none, .call 37 [(.t 17)]⟩,⟨some 19, none, .fa 5 (.t 1)⟩,⟨some 20, none, .ld (.t 19)⟩,⟨some 21, none, .call 37 [(.t 20)]⟩,⟨some 22, none, .bsl 1 6 [(.s ⟨#[]⟩), (.s ⟨#[]⟩), (.s ⟨#[]⟩), (.s ⟨#[]⟩), (.s ⟨#[]⟩), (.s ⟨#[]⟩)] [(0, 1, (.t 6)), (1, 1, (.t 9)), (2, 1, (.t 12)), (3, 1, (.t 15)), (4, 1, (.t 18)), (5, 1, (.t 21))]⟩,⟨some 3, none, .mv (.t 22)⟩] [(4, 2), (7, 2), (7, 5), (10, 2), (10, 5), (10, 8), (13, 2), (13, 5), (13, 8), (13, 11), (16, 2), (16, 5), (16, 8), (16, 11), (16, 14)])
 (.seq (.reg [⟨some 23, none, .mv (.t 3)⟩,⟨some 24, none, .call 41 [(.t 23), (.c (.s ⟨#[32]⟩))]⟩,⟨some 2, none, .mv (.t 24)⟩])
 (.ret)))
theorem fn14 : F 14 = .go 25 [.t 2] v14 := by rw [F, fnOf, Tryz.func14]; kernel_rfl

def v16 : VC :=
 .seq (.reg [⟨some 2, none, .mv (.c (.sl none 0 0 true))⟩])
 (.seq (.reg [⟨some 3, none, .mv (.c (.sl none 0 0 true))⟩])
 (.seq (.seq (.reg [⟨some 6, none, .mv (.t 0)⟩,⟨some 7, none, .len 1 (.t 6)⟩,⟨some 8, none, .mv (.c (.i .i64 0))⟩])
 (.blk 0 (.loop (.seq (.reg [⟨some 9, none, .bin .lss (.t 8) (.t 7)⟩])
 (.seq (.cond (.t 9) (.skip)
 (.exit 0))
 (.seq (.blk 1 (.seq (.reg [⟨some 10, none, .mv (.t 8)⟩,⟨some 11, none, .ia 2 (.t 6) (.t 8)⟩,⟨some 12, none, .ldn 2 (.t 11)⟩,⟨some 5, none, .alloc 31 [(.i .i64 0), (.i .i64 0)]⟩,⟨some 4, none, .mv (.t 10)⟩,⟨none, none, .st 2 (.t 5) (.t 12)⟩])
 (.reg [⟨some 13, none, .mv (.t 3)⟩,⟨some 14, none, .mv (.t 4)⟩,⟨some 15, none, .mif 3 (.t 14)⟩,⟨some 16, none, .ldn 2 (.t 5)⟩,⟨some 17, none, .call 13 [(.t 16)]⟩,⟨some 18, none, .mif 9 (.t 17)⟩,⟨some 19, none, .bsl 1 2 [.ni, .ni] [(0, 1, (.t 15)), (1, 1, (.t 18))]⟩,⟨some 20, none, .call 42 [(.t 19)]⟩,⟨some 21, none, .bsl 1 1 [(.s ⟨#[]⟩)] [(0, 1, (.t 20))]⟩,⟨some 22, none, .app ⟨1, (some 9)⟩ 16 (.t 13) (.t 21)⟩,⟨some 3, none, .mv (.t 22)⟩])))
 (.reg [⟨some 23, none, .bin .add (.t 8) (.c (.i .i64 1))⟩,⟨some 8, none, .mv (.t 23)⟩])))))))
 (.seq (.reg [⟨some 24, none, .mv (.t 3)⟩,⟨some 2, none, .mv (.t 24)⟩])
 (.ret))))
theorem fn16 : F 16 = .go 25 [.t 2] v16 := by rw [F, fnOf, Tryz.func16]; kernel_rfl

def v17 : VC :=
 .seq (.reg [⟨some 1, none, .box 4 (.t 0)⟩,⟨some 2, none, .mv (.c (.sl none 0 0 true))⟩])
 (.seq (.reg [⟨some 3, none, .mv (.c (.sl none 0 0 true))⟩])
 (.seq (.seq (.reg [⟨some 6, none, .fa 0 (.t 1)⟩,⟨some 7, none, .ld (.t 6)⟩,⟨some 8, none, .len 1 (.t 7)⟩,⟨some 9, none, .mv (.c (.i .i64 0))⟩])
 (.blk 0 (.loop (.seq (.reg [⟨some 10, none, .bin .lss (.t 9) (.t 8)⟩])
 (.seq (.cond (.t 10) (.skip)
 (.exit 0))
 (.seq (.blk 1 (.seq (.reg [⟨some 11, none, .mv (.t 9)⟩,⟨some 12, none, .ia 6 (.t 7) (.t 9)⟩,⟨some 13, none, .ldn 6 (.t 12)⟩,⟨some 5, none, .alloc 46 [(.i .i64 0), (.i .i64 0), (.i .i64 0), (.i .i64 0), (.i .i64 0), (.i .i64 0)]⟩,⟨some 4, none, .mv (.t 11)⟩,⟨none, none, .st 6 (.t 5) (.t 13)⟩])
 (.reg [⟨some 14, none, .mv (.t 3)⟩,⟨some 15, none, .mv (.t 4)⟩,⟨some 16, none, .mif 3 (.t 15)⟩,⟨some 17, none, .ldn 6 (.t 5)⟩,⟨some 18, none, .call 14 [(.t 17)]⟩,⟨some 19, none, .mif 9 (.t 18)⟩,⟨some 20, none, .bsl 1 2 [.ni, .ni] [(0, 1, (.t 16)), (1, 1, (.t 19))]⟩,⟨some 21, none, .call 42 [(.t 20)]⟩,⟨some 22, none, .bsl 1 1 [(.s ⟨#[]⟩)] [(0, 1, (.t 21))]⟩,⟨some 23, none, .app ⟨1, (some 9)⟩ 16 (.t 14) (.t 22)⟩,⟨some 3, none, .mv (.t 23)⟩])))
 (.reg [⟨some 24, none, .bin .add (.t 9) (.c (.i .i64 1))⟩,⟨some 9, none, .mv (.t 24)⟩])))))))
 (.seq (.reg [⟨some 25, none, .mv (.t 3)⟩,⟨some 2, none, .mv (.t 25)⟩])
 (.ret))))
theorem fn17 : F 17 = .go 26 [.t 2] v17 := by rw [F, fnOf, Tryz.func17]; kernel_rfl

def v18 : VC :=
 .seq (.reg [⟨some 0, none, .mv (.c (.b false))⟩])
 (.seq (.reg [⟨some 4, none, .bsl 1 1 [(.i .u8 0)] [(0, 1, (.c (.i .u8 97)))]⟩,⟨some 5, none, .cvm (xt 4)⟩,⟨some 6, none, .bsl 1 1 [(.i .u8 0)] [(0, 1, (.c (.i .u8 98)))]⟩,⟨some 7, none, .cvm (xt 6)⟩,⟨some 8, none, .build [z0, z0, z0, z0] [(0, 1, (xi 99)), (1, 1, (xi 9)), (2, 1, (xi 999)), (3, 1, (xi 4))]⟩,⟨some 9, none, .call 43 [(xt 5), (xt 7), (xt 8), (.c (.s ⟨#[115, 116, 101, 112, 10, 98, 97, 99, 107, 10, 98, 97, 99, 107]⟩))]⟩,oa 3 9,oe 10 3 0,oe 11 3 1,oa 1 10,oa 2 11])
 (.seq (.reg [oa 12 2,⟨some 13, none, .bin .eql (xt 12) (xi 0)⟩,oa 14 13,ot 15 14 1,⟨some 16, yt 14, .bsl 1 6 [(.s ⟨#[]⟩), (.s ⟨#[]⟩), (.s ⟨#[]⟩), (.s ⟨#[]⟩), (.s ⟨#[]⟩), (.s ⟨#[]⟩)] [(0, 1, (.c (.s ⟨#[62, 32, 115, 116, 101, 112]⟩))), (1, 1, (.c (.s ⟨#[35, 49, 32, 91, 48, 44, 49, 41, 32, 34, 97, 34, 32, 109, 105, 115, 115, 58, 32, 102, 97, 105, 108, 115, 32, 97, 116, 32, 48]⟩))), (2, 1, (.c (.s ⟨#[62, 32, 98, 97, 99, 107]⟩))), (3, 1, (.c (.s ⟨#[35, 48, 32, 91, 48, 44, 49, 41, 32, 34, 97, 34, 32, 98, 101, 103, 105, 110, 58, 32, 97, 110, 32, 97, 116, 116, 101, 109, 112, 116, 32, 97, 116, 32, 48]⟩))), (4, 1, (.c (.s ⟨#[62, 32, 98, 97, 99, 107]⟩))), (5, 1, (.c (.s ⟨#[101, 114, 114, 111, 114, 32, 55, 48]⟩)))]⟩,⟨some 17, yt 14, .call 44 [(xt 15), (xt 16)]⟩,⟨some 18, none, .pick (xt 14) (xt 17) (.c (.b false))⟩,oa 0 18])
 (.ret)))
theorem fn18 : F 18 = .go 19 [.t 0] v18 := by rw [F, fnOf, Tryz.func18]; kernel_rfl

def v19 : VC :=
 .seq (.reg [⟨some 5, none, .box 4 (xt 2)⟩,⟨some 6, none, .mv (.c (.p none))⟩,⟨some 7, none, .mv (.c (.p none))⟩])
 (.seq (.seq (.reg [oa 11 0,oz 12 11,⟨some 13, none, .bin .gtr (xt 12) (xi 500)⟩,oa 14 13,on 15 14 1,⟨some 16, yn 14, .len 1 (xt 15)⟩,⟨some 17, yn 14, .bin .gtr (xt 16) (xi 300)⟩,⟨some 18, none, .pick (xt 14) (.c (.b true)) (xt 17)⟩,oa 19 18,⟨some 20, yn 19, .fa 0 (xt 5)⟩,⟨some 21, yn 19, .ld (xt 20)⟩,⟨some 22, yn 19, .bin .gtr (xt 21) (xi 1000)⟩,⟨some 23, none, .pick (xt 19) (.c (.b true)) (xt 22)⟩])
 (.cond (xt 23) (.seq (.reg [⟨some 6, none, .mv (.c (.p none))⟩,⟨some 7, none, .mv (.c (.p none))⟩])
 (.ret))
 (.skip)))
 (.seq (.reg [oa 25 0,oa 26 1,od 27 4 5,⟨some 28, none, .call 31 [(xt 25), (xt 26), (xt 27)]⟩,oa 24 28,oe 29 24 0,oe 30 24 1,oe 31 24 2,oa 8 29,oa 9 30,oa 10 31])
 (.seq (.seq (.reg [oa 32 9,⟨some 33, none, .bin .neq (xt 32) (xi 0)⟩,oa 34 33,on 35 34 8,⟨some 36, yn 34, .eqn .p false (xt 35) (.c (.p none))⟩,⟨some 37, none, .pick (xt 34) (.c (.b true)) (xt 36)⟩])
 (.cond (xt 37) (.seq (.reg [⟨some 6, none, .mv (.c (.p none))⟩,⟨some 7, none, .mv (.c (.p none))⟩])
 (.ret))
 (.skip)))
 (.seq (.reg [oa 38 8,⟨some 39, none, .call 32 [(xt 38)]⟩,oa 40 8,⟨some 41, none, .call 32 [(xt 40)]⟩,oa 6 39,oa 7 41])
 (.ret)))))
theorem fn19 : F 19 = .go 42 [.t 6, .t 7] v19 := by rw [F, fnOf, Tryz.func19]; kernel_rfl

def v20 : VC :=
 .seq (.reg [⟨some 3, none, .box 4 (.t 1)⟩,⟨some 4, none, .mv (.c (.sl none 0 0 true))⟩,⟨some 5, none, .mv (.c (.i .i64 0))⟩])
 (.seq (.seq (.reg [⟨some 7, none, .ldn 4 (.t 3)⟩,⟨some 8, none, .call 45 [(.t 7)]⟩,⟨some 9, none, .un .not (.t 8)⟩])
 (.cond (.t 9) (.seq (.reg [⟨some 4, none, .mv (.c (.sl none 0 0 true))⟩,⟨some 5, none, .mv (.c (.i .i64 11))⟩])
 (.ret))
 (.skip)))
 (.seq (.seq (.reg [⟨some 10, none, .fa 0 (.t 3)⟩,⟨some 11, none, .ld (.t 10)⟩])
 (.blk 0 (.seq (.seq (.reg [⟨some 13, none, .bin .eql (.t 11) (.c (.i .i64 7))⟩,⟨some 12, none, .mv (.t 13)⟩])
 (.cond (.t 12) (.skip)
 (.seq (.reg [⟨some 14, none, .bin .eql (.t 11) (.c (.i .i64 8))⟩,⟨some 12, none, .mv (.t 14)⟩])
 (.cond (.t 12) (.skip)
 (.reg [⟨some 15, none, .bin .eql (.t 11) (.c (.i .i64 9))⟩,⟨some 12, none, .mv (.t 15)⟩])))))
 (.cond (.t 12) (.seq (.reg [⟨some 16, none, .mv (.t 0)⟩,⟨some 17, none, .ldn 4 (.t 3)⟩,⟨some 18, none, .call 46 [(.t 16), (.t 17)]⟩,⟨some 19, none, .ext (.t 18) 0⟩,⟨some 20, none, .ext (.t 18) 1⟩,⟨some 4, none, .mv (.t 19)⟩,⟨some 5, none, .mv (.t 20)⟩])
 (.ret))
 (.seq (.seq (.reg [⟨some 22, none, .bin .eql (.t 11) (.c (.i .i64 10))⟩,⟨some 21, none, .mv (.t 22)⟩])
 (.cond (.t 21) (.skip)
 (.seq (.reg [⟨some 23, none, .bin .eql (.t 11) (.c (.i .i64 11))⟩,⟨some 21, none, .mv (.t 23)⟩])
 (.cond (.t 21) (.skip)
 (.seq (.reg [⟨some 24, none, .bin .eql (.t 11) (.c (.i .i64 13))⟩,⟨some 21, none, .mv (.t 24)⟩])
 (.cond (.t 21) (.skip)
 (.reg [⟨some 25, none, .bin .eql (.t 11) (.c (.i .i64 14))⟩,⟨some 21, none, .mv (.t 25)⟩])))))))
 (.cond (.t 21) (.seq (.reg [⟨some 26, none, .mv (.t 0)⟩,⟨some 27, none, .fa 0 (.t 3)⟩,⟨some 28, none, .ld (.t 27)⟩,⟨some 29, none, .call 47 [(.t 26), (.t 28)]⟩,⟨some 30, none, .ext (.t 29) 0⟩,⟨some 31, none, .ext (.t 29) 1⟩,⟨some 4, none, .mv (.t 30)⟩,⟨some 5, none, .mv (.t 31)⟩])
 (.ret))
 (.seq (.reg [⟨some 33, none, .bin .eql (.t 11) (.c (.i .i64 12))⟩,⟨some 32, none, .mv (.t 33)⟩])
 (.cond (.t 32) (.seq (.reg [⟨some 34, none, .mv (.t 0)⟩,⟨some 35, none, .call 48 [(.t 34)]⟩,⟨some 36, none, .ext (.t 35) 0⟩,⟨some 37, none, .ext (.t 35) 1⟩,⟨some 4, none, .mv (.t 36)⟩,⟨some 5, none, .mv (.t 37)⟩])
 (.ret))
 (.skip)))))))))
 (.seq (.seq (.reg [⟨some 38, none, .mv (.t 0)⟩,⟨some 39, none, .ldn 4 (.t 3)⟩,⟨some 40, none, .call 49 [(.t 38), (.t 39)]⟩,⟨some 6, none, .mv (.t 40)⟩])
 (.seq (.reg [⟨some 41, none, .mv (.t 6)⟩,⟨some 42, none, .bin .neq (.t 41) (.c (.i .i64 0))⟩])
 (.cond (.t 42) (.seq (.reg [⟨some 43, none, .mv (.t 6)⟩,⟨some 4, none, .mv (.c (.sl none 0 0 true))⟩,⟨some 5, none, .mv (.t 43)⟩])
 (.ret))
 (.skip))))
 (.seq (.reg [⟨some 44, none, .mv (.t 0)⟩,⟨some 45, none, .call 48 [(.t 44)]⟩,⟨some 46, none, .ext (.t 45) 0⟩,⟨some 47, none, .ext (.t 45) 1⟩,⟨some 4, none, .mv (.t 46)⟩,⟨some 5, none, .mv (.t 47)⟩])
 (.ret)))))
theorem fn20 : F 20 = .go 48 [.t 4, .t 5] v20 := by rw [F, fnOf, Tryz.func20]; kernel_rfl

def v21 : VC :=
 .seq (.reg [⟨some 2, none, .alloc 60 [(.i .i64 0), (.i .i64 0), (.i .i64 0), (.i .i64 0), (.i .i64 0), (.i .i64 0), (.i .i64 0), (.sl none 0 0 true)]⟩,⟨some 3, none, .mv (.c (.i .i64 0))⟩])
 (.seq (.seq (.reg [⟨some 4, none, .mv (.t 0)⟩,⟨some 5, none, .call 50 [(.t 4)]⟩,⟨some 6, none, .bin .eql (.t 5) (.c (.i .i64 0))⟩])
 (.cond (.t 6) (.seq (.reg [⟨some 7, none, .build [(.i .i64 0), (.i .i64 0), (.i .i64 0), (.i .i64 0), (.i .i64 0), (.i .i64 0), (.i .i64 0), (.sl none 0 0 true)] []⟩,⟨none, none, .st 8 (.t 2) (.t 7)⟩,⟨some 3, none, .mv (.c (.i .i64 12))⟩])
 (.ret))
 (.skip)))
 (.seq (.reg [⟨some 8, none, .mv (.t 0)⟩,⟨some 9, none, .nc (.t 8)⟩,⟨some 10, none, .fa 2 (.t 9)⟩,⟨some 11, none, .ldn 8 (.t 10)⟩,⟨some 12, none, .call 51 [(.t 11)]⟩,⟨none, none, .st 8 (.t 2) (.t 12)⟩,⟨some 3, none, .mv (.c (.i .i64 0))⟩])
 (.ret)))
theorem fn21 : F 21 = .go 13 [.c 2 (some 8), .t 3] v21 := by rw [F, fnOf, Tryz.func21]; kernel_rfl

def v25 : VC :=
 .seq (.reg [⟨some 2, none, .mv (.c (.i .i64 0))⟩])
 (.seq (.reg [⟨some 3, none, .mv (.t 0)⟩,⟨some 4, none, .nc (.t 3)⟩,⟨some 5, none, .fa 4 (.t 4)⟩,⟨some 6, none, .ld (.t 5)⟩,⟨some 7, none, .len 1 (.t 6)⟩,⟨some 2, none, .mv (.t 7)⟩])
 (.ret))
theorem fn25 : F 25 = .go 8 [.t 2] v25 := by rw [F, fnOf, Tryz.func25]; kernel_rfl

def v28 : VC :=
 .seq (.reg [⟨some 2, none, .box 8 (xt 0)⟩,⟨some 3, none, .box 8 (xt 1)⟩,⟨some 4, none, .mv (.c (.b false))⟩])
 (.seq (.reg [of 6 0 2,ol 7 6,of 8 1 2,ol 9 8,of 10 2 2,ol 11 10,of 12 3 2,ol 13 12,of 14 4 2,ol 15 14,of 16 5 2,ol 17 16,of 18 6 2,ol 19 18,⟨some 20, none, .build [z0, z0, z0, z0, z0, z0, z0] [(0, 1, (xt 7)), (1, 1, (xt 9)), (2, 1, (xt 11)), (3, 1, (xt 13)), (4, 1, (xt 15)), (5, 1, (xt 17)), (6, 1, (xt 19))]⟩,of 21 0 3,ol 22 21,of 23 1 3,ol 24 23,of 25 2 3,ol 26 25,of 27 3 3,ol 28 27,of 29 4 3,ol 30 29,of 31 5 3,ol 32 31,of 33 6 3,ol 34 33,⟨some 35, none, .build [z0, z0, z0, z0, z0, z0, z0] [(0, 1, (xt 22)), (1, 1, (xt 24)), (2, 1, (xt 26)), (3, 1, (xt 28)), (4, 1, (xt 30)), (5, 1, (xt 32)), (6, 1, (xt 34))]⟩,⟨some 36, none, .eqa false [(0, .i), (1, .i), (2, .i), (3, .i), (4, .i), (5, .i), (6, .i)] (xt 20) (xt 35)⟩,oa 5 36])
 (.seq (.reg [oa 37 5,oa 38 37,⟨some 39, yt 38, .fa 7 (xt 2)⟩,⟨some 40, yt 38, .ld (xt 39)⟩,⟨some 41, yt 38, .fa 7 (xt 3)⟩,⟨some 42, yt 38, .ld (xt 41)⟩,⟨some 43, yt 38, .call 64 [(xt 40), (xt 42)]⟩,⟨some 44, none, .pick (xt 38) (xt 43) (.c (.b false))⟩,oa 4 44])
 (.ret)))
theorem fn28 : F 28 = .go 45 [.t 4] v28 := by rw [F, fnOf, Tryz.func28]; kernel_rfl

def v30 : VC :=
 .seq (.reg [oi 2 0])
 (.seq (.reg [oa 3 0,oc 4 3,of 5 1 4,ol 6 5,oa 2 6])
 (.ret))
theorem fn30 : F 30 = .go 7 [.t 2] v30 := by rw [F, fnOf, Tryz.func30]; kernel_rfl

def v31 : VC :=
 .seq (.reg [⟨some 5, none, .box 4 (xt 2)⟩,⟨some 6, none, .mv (.c (.p none))⟩,oi 7 0,oi 8 0])
 (.seq (.seq (.reg [od 15 4 5,⟨some 16, none, .call 67 [(xt 15)]⟩,⟨some 17, none, .un .not (xt 16)⟩])
 (.cond (xt 17) (.seq (.reg [⟨some 6, none, .mv (.c (.p none))⟩,oi 7 10,oi 8 0])
 (.ret))
 (.skip)))
 (.seq (.reg [oa 19 0,⟨some 20, none, .call 68 [(xt 19)]⟩,oa 18 20,oe 21 18 0,oe 22 18 1,oe 23 18 2,⟨some 9, none, .alloc 82 [(.sl none 0 0 true), (.i .i64 0), (.sl none 0 0 true)]⟩,os 3 9 21,oa 10 22,oa 11 23])
 (.seq (.seq (.reg [oa 24 10,⟨some 25, none, .bin .neq (xt 24) (xi 0)⟩])
 (.cond (xt 25) (.seq (.reg [oa 26 10,oa 27 11,⟨some 6, none, .mv (.c (.p none))⟩,oa 7 26,oa 8 27])
 (.ret))
 (.skip)))
 (.seq (.reg [oa 29 1,⟨some 30, none, .call 69 [(xt 29)]⟩,oa 28 30,oe 31 28 0,oe 32 28 1,⟨some 12, none, .alloc 84 [(.sl none 0 0 true)]⟩,os 1 12 31,oa 10 32])
 (.seq (.seq (.reg [oa 33 10,⟨some 34, none, .bin .neq (xt 33) (xi 0)⟩])
 (.cond (xt 34) (.seq (.reg [oa 35 10,⟨some 6, none, .mv (.c (.p none))⟩,oa 7 35,oi 8 0])
 (.ret))
 (.skip)))
 (.seq (.regd [⟨some 36, none, .bsl 1 0 [] []⟩,oa 37 0,⟨some 38, none, .app ⟨1, (some 5)⟩ 1 (xt 36) (xt 37)⟩,od 39 3 9,od 40 3 9,⟨some 41, none, .call 70 [(xt 40)]⟩,od 42 1 12,⟨some 43, none, .build [(.sl none 0 0 true), (.sl none 0 0 true), (.i .i64 0), (.sl none 0 0 true), (.sl none 0 0 true), (.sl none 0 0 true), (.sl none 0 0 true), (.i .i64 0), (.sl none 0 0 true), (.p none), z0, z0] [(0, 1, (xt 38)), (1, 3, (xt 39)), (4, 4, (xt 41)), (8, 1, (xt 42))]⟩,⟨some 44, none, .box 12 (xt 43)⟩,oa 13 44] [(3, 0), (3, 2), (3, 5), (4, 0), (4, 2), (6, 0), (6, 2), (6, 5)])
 (.seq (.regd [oa 46 13,oc 47 46,of 48 4 47,od 49 4 48,od 50 1 12,of 51 0 5,ol 52 51,of 53 1 5,ol 54 53,⟨some 55, none, .build [z0, z0, z0] [(0, 1, (xt 52)), (1, 1, (xt 54))]⟩,⟨some 56, none, .call 71 [(xt 49), (xt 50), (xt 55)]⟩,oa 45 56,oe 57 45 0,oe 58 45 1,oa 14 57,oa 10 58] [])
 (.seq (.seq (.reg [oa 59 10,⟨some 60, none, .bin .neq (xt 59) (xi 0)⟩])
 (.cond (xt 60) (.seq (.reg [oa 61 10,⟨some 6, none, .mv (.c (.p none))⟩,oa 7 61,oi 8 0])
 (.ret))
 (.skip)))
 (.seq (.seq (.reg [oa 63 13,of 64 1 9,ol 65 64,of 66 3 5,ol 67 66,of 68 2 5,ol 69 68,⟨some 70, none, .call 55 [(xt 65), (xt 67), (xt 69)]⟩,oa 62 70,oe 71 62 0,oe 72 62 1,oc 73 63,of 74 9 73,os 1 74 71,oa 10 72])
 (.seq (.reg [oa 75 10,⟨some 76, none, .bin .neq (xt 75) (xi 0)⟩])
 (.cond (xt 76) (.seq (.reg [oa 77 10,⟨some 6, none, .mv (.c (.p none))⟩,oa 7 77,oi 8 0])
 (.ret))
 (.skip))))
 (.seq (.reg [oa 78 13,oa 79 14,⟨some 80, none, .call 72 [(xt 78), (xt 79)]⟩])
 (.seq (.reg [oa 81 13,oa 82 14,⟨some 83, none, .call 73 [(xt 82)]⟩,oc 84 81,of 85 11 84,os 1 85 83])
 (.seq (.reg [oa 86 13,oa 6 86,oi 7 0,oi 8 0])
 (.ret)))))))))))))
theorem fn31 : F 31 = .go 87 [.t 6, .t 7, .t 8] v31 := by rw [F, fnOf, Tryz.func31]; kernel_rfl

def v32 : VC :=
 .seq (.reg [⟨some 2, none, .mv (.c (.p none))⟩])
 (.seq (.reg [oa 4 0,⟨some 5, none, .build [(.p none), z0, z0, z0, z0, z0, z0, z0, z0, (.sl none 0 0 true), (.sl none 0 0 true), (.i .i64 0)] [(0, 1, (xt 4))]⟩,⟨some 6, none, .box 12 (xt 5)⟩,oa 3 6])
 (.seq (.reg [oa 7 3,⟨some 8, none, .call 74 [(xt 7), (xi 0)]⟩])
 (.seq (.reg [oa 9 3,oa 2 9])
 (.ret))))
theorem fn32 : F 32 = .go 10 [.t 2] v32 := by rw [F, fnOf, Tryz.func32]; kernel_rfl

def v33 : VC :=
 .seq (.reg [⟨some 2, none, .box 2 (.t 0)⟩,⟨some 3, none, .box 3 (.t 1)⟩,⟨some 4, none, .mv (.c (.b false))⟩])
 (.seq (.seq (.reg [⟨some 5, none, .fa 0 (.t 2)⟩,⟨some 6, none, .ld (.t 5)⟩])
 (.blk 0 (.seq (.reg [⟨some 8, none, .bin .eql (.t 6) (.c (.i .i64 1))⟩,⟨some 7, none, .mv (.t 8)⟩])
 (.cond (.t 7) (.seq (.reg [⟨some 9, none, .fa 1 (.t 2)⟩,⟨some 10, none, .ld (.t 9)⟩,⟨some 11, none, .fa 0 (.t 3)⟩,⟨some 12, none, .ld (.t 11)⟩,⟨some 13, none, .len 1 (.t 12)⟩,⟨some 14, none, .bin .sub (.t 13) (.c (.i .i64 1))⟩,⟨some 15, none, .call 75 [(.t 10), (.c (.i .i64 0)), (.t 14)]⟩,⟨some 4, none, .mv (.t 15)⟩])
 (.ret))
 (.seq (.reg [⟨some 17, none, .bin .eql (.t 6) (.c (.i .i64 2))⟩,⟨some 16, none, .mv (.t 17)⟩])
 (.cond (.t 16) (.seq (.reg [⟨some 18, none, .fa 1 (.t 2)⟩,⟨some 19, none, .ld (.t 18)⟩,⟨some 20, none, .call 75 [(.t 19), (.c (.i .i64 0)), (.c (.i .i64 65536))]⟩,⟨some 4, none, .mv (.t 20)⟩])
 (.ret))
 (.seq (.reg [⟨some 22, none, .bin .eql (.t 6) (.c (.i .i64 3))⟩,⟨some 21, none, .mv (.t 22)⟩])
 (.cond (.t 21) (.seq (.reg [⟨some 23, none, .fa 1 (.t 2)⟩,⟨some 24, none, .ld (.t 23)⟩,⟨some 25, none, .call 75 [(.t 24), (.c (.i .i64 1)), (.c (.i .i64 14))]⟩,⟨some 4, none, .mv (.t 25)⟩])
 (.ret))
 (.seq (.reg [⟨some 27, none, .bin .eql (.t 6) (.c (.i .i64 4))⟩,⟨some 26, none, .mv (.t 27)⟩])
 (.cond (.t 26) (.seq (.reg [⟨some 28, none, .fa 1 (.t 2)⟩,⟨some 29, none, .ld (.t 28)⟩,⟨some 30, none, .fa 1 (.t 3)⟩,⟨some 31, none, .ld (.t 30)⟩,⟨some 32, none, .call 75 [(.t 29), (.c (.i .i64 0)), (.t 31)]⟩,⟨some 4, none, .mv (.t 32)⟩])
 (.ret))
 (.seq (.reg [⟨some 34, none, .bin .eql (.t 6) (.c (.i .i64 5))⟩,⟨some 33, none, .mv (.t 34)⟩])
 (.cond (.t 33) (.seq (.reg [⟨some 35, none, .fa 1 (.t 2)⟩,⟨some 36, none, .ld (.t 35)⟩,⟨some 37, none, .call 75 [(.t 36), (.c (.i .i64 1)), (.c (.i .i64 65536))]⟩,⟨some 4, none, .mv (.t 37)⟩])
 (.ret))
 (.skip)))))))))))))
 (.seq (.reg [⟨some 4, none, .mv (.c (.b false))⟩])
 (.ret)))
theorem fn33 : F 33 = .go 38 [.t 4] v33 := by rw [F, fnOf, Tryz.func33]; kernel_rfl

def v34 : VC :=
 .seq (.reg [⟨some 3, none, .box 2 (.t 1)⟩,⟨some 4, none, .mv (.c (.b false))⟩])
 (.seq (.reg [⟨some 5, none, .mv (.t 0)⟩,⟨some 6, none, .ldn 2 (.t 3)⟩,⟨some 7, none, .call 76 [(.t 5), (.t 6)]⟩,⟨some 8, none, .bin .geq (.t 7) (.c (.i .i64 0))⟩,⟨some 4, none, .mv (.t 8)⟩])
 (.ret))
theorem fn34 : F 34 = .go 9 [.t 4] v34 := by rw [F, fnOf, Tryz.func34]; kernel_rfl

def v35 : VC :=
 .seq (.reg [⟨some 2, none, .mv (.c (.sl none 0 0 true))⟩])
 (.seq (.seq (.reg [⟨some 3, none, .mv (.t 0)⟩,⟨some 4, none, .eqn .sl false (.t 3) (.c (.sl none 0 0 true))⟩])
 (.cond (.t 4) (.seq (.reg [⟨some 2, none, .mv (.c (.sl none 0 0 true))⟩])
 (.ret))
 (.skip)))
 (.seq (.reg [⟨some 5, none, .bsl 2 0 [] []⟩,⟨some 6, none, .mv (.t 0)⟩,⟨some 7, none, .app ⟨2, (some 31)⟩ 16 (.t 5) (.t 6)⟩,⟨some 2, none, .mv (.t 7)⟩])
 (.ret)))
theorem fn35 : F 35 = .go 8 [.t 2] v35 := by rw [F, fnOf, Tryz.func35]; kernel_rfl

def v37 : VC :=
 .seq (.reg [⟨some 2, none, .mv (.c (.s ⟨#[]⟩))⟩])
 (.seq (.reg [⟨some 3, none, .mv (.t 0)⟩,⟨some 4, none, .call 78 [(.t 3)]⟩,⟨some 2, none, .mv (.t 4)⟩])
 (.ret))
theorem fn37 : F 37 = .go 5 [.t 2] v37 := by rw [F, fnOf, Tryz.func37]; kernel_rfl

def v38 : VC :=
 .seq (.reg [⟨some 2, none, .mv (.c (.s ⟨#[]⟩))⟩])
 (.seq (.reg [⟨some 4, none, .build [(.s ⟨#[]⟩), (.s ⟨#[]⟩), (.s ⟨#[]⟩), (.s ⟨#[]⟩), (.s ⟨#[]⟩), (.s ⟨#[]⟩), (.s ⟨#[]⟩), (.s ⟨#[]⟩), (.s ⟨#[]⟩), (.s ⟨#[]⟩), (.s ⟨#[]⟩), (.s ⟨#[]⟩), (.s ⟨#[]⟩), (.s ⟨#[]⟩), (.s ⟨#[]⟩)] [(1, 1, (.c (.s ⟨#[98, 101, 103, 105, 110]⟩))), (2, 1, (.c (.s ⟨#[115, 116, 101, 112]⟩))), (3, 1, (.c (.s ⟨#[109, 105, 115, 115]⟩))), (4, 1, (.c (.s ⟨#[104, 101, 108, 100]⟩))), (5, 1, (.c (.s ⟨#[116, 117, 114, 110]⟩))), (6, 1, (.c (.s ⟨#[102, 111, 114, 107]⟩))), (7, 1, (.c (.s ⟨#[97, 103, 97, 105, 110]⟩))), (8, 1, (.c (.s ⟨#[111, 112, 101, 110]⟩))), (9, 1, (.c (.s ⟨#[99, 108, 111, 115, 101]⟩))), (10, 1, (.c (.s ⟨#[105, 110, 116, 111]⟩))), (11, 1, (.c (.s ⟨#[111, 117, 116]⟩))), (12, 1, (.c (.s ⟨#[100, 114, 111, 112]⟩))), (13, 1, (.c (.s ⟨#[109, 97, 116, 99, 104]⟩))), (14, 1, (.c (.s ⟨#[110, 111, 110, 101]⟩)))]⟩,⟨some 3, none, .alloc 135 [(.s ⟨#[]⟩), (.s ⟨#[]⟩), (.s ⟨#[]⟩), (.s ⟨#[]⟩), (.s ⟨#[]⟩), (.s ⟨#[]⟩), (.s ⟨#[]⟩), (.s ⟨#[]⟩), (.s ⟨#[]⟩), (.s ⟨#[]⟩), (.s ⟨#[]⟩), (.s ⟨#[]⟩), (.s ⟨#[]⟩), (.s ⟨#[]⟩), (.s ⟨#[]⟩)]⟩,⟨none, none, .st 15 (.t 3) (.t 4)⟩])
 (.seq (.seq (.reg [⟨some 5, none, .mv (.t 0)⟩,⟨some 6, none, .bin .lss (.t 5) (.c (.i .i64 1))⟩,⟨some 7, none, .mv (.t 6)⟩,⟨some 8, some (7, false), .mv (.t 0)⟩,⟨some 9, some (7, false), .bin .gtr (.t 8) (.c (.i .i64 14))⟩,⟨some 10, none, .pick (.t 7) (.c (.b true)) (.t 9)⟩])
 (.cond (.t 10) (.seq (.reg [⟨some 2, none, .mv (.c (.s ⟨#[]⟩))⟩])
 (.ret))
 (.skip)))
 (.seq (.reg [⟨some 11, none, .mv (.t 0)⟩,⟨some 12, none, .iaA 15 1 (.t 3) (.t 11)⟩,⟨some 13, none, .ld (.t 12)⟩,⟨some 2, none, .mv (.t 13)⟩])
 (.ret))))
theorem fn38 : F 38 = .go 14 [.t 2] v38 := by rw [F, fnOf, Tryz.func38]; kernel_rfl

def v39 : VC :=
 .seq (.reg [⟨some 2, none, .mv (.c (.s ⟨#[]⟩))⟩])
 (.seq (.reg [⟨some 4, none, .build [(.s ⟨#[]⟩), (.s ⟨#[]⟩), (.s ⟨#[]⟩), (.s ⟨#[]⟩), (.s ⟨#[]⟩), (.s ⟨#[]⟩)] [(1, 1, (.c (.s ⟨#[110, 111, 100, 101]⟩))), (2, 1, (.c (.s ⟨#[112, 111, 115]⟩))), (3, 1, (.c (.s ⟨#[107, 105, 110, 100]⟩))), (4, 1, (.c (.s ⟨#[103, 114, 111, 117, 112]⟩))), (5, 1, (.c (.s ⟨#[100, 101, 112, 116, 104]⟩)))]⟩,⟨some 3, none, .alloc 136 [(.s ⟨#[]⟩), (.s ⟨#[]⟩), (.s ⟨#[]⟩), (.s ⟨#[]⟩), (.s ⟨#[]⟩), (.s ⟨#[]⟩)]⟩,⟨none, none, .st 6 (.t 3) (.t 4)⟩])
 (.seq (.seq (.reg [⟨some 5, none, .mv (.t 0)⟩,⟨some 6, none, .call 75 [(.t 5), (.c (.i .i64 1)), (.c (.i .i64 5))]⟩,⟨some 7, none, .un .not (.t 6)⟩])
 (.cond (.t 7) (.seq (.reg [⟨some 2, none, .mv (.c (.s ⟨#[]⟩))⟩])
 (.ret))
 (.skip)))
 (.seq (.reg [⟨some 8, none, .mv (.t 0)⟩,⟨some 9, none, .iaA 6 1 (.t 3) (.t 8)⟩,⟨some 10, none, .ld (.t 9)⟩,⟨some 2, none, .mv (.t 10)⟩])
 (.ret))))
theorem fn39 : F 39 = .go 11 [.t 2] v39 := by rw [F, fnOf, Tryz.func39]; kernel_rfl

def v40 : VC :=
 .seq (.reg [⟨some 2, none, .mv (.c (.s ⟨#[]⟩))⟩])
 (.seq (.reg [⟨some 4, none, .build [(.s ⟨#[]⟩), (.s ⟨#[]⟩), (.s ⟨#[]⟩), (.s ⟨#[]⟩), (.s ⟨#[]⟩), (.s ⟨#[]⟩), (.s ⟨#[]⟩), (.s ⟨#[]⟩), (.s ⟨#[]⟩), (.s ⟨#[]⟩), (.s ⟨#[]⟩), (.s ⟨#[]⟩), (.s ⟨#[]⟩), (.s ⟨#[]⟩), (.s ⟨#[]⟩), (.s ⟨#[]⟩), (.s ⟨#[]⟩), (.s ⟨#[]⟩), (.s ⟨#[]⟩), (.s ⟨#[]⟩)] [(1, 1, (.c (.s ⟨#[115, 101, 116]⟩))), (2, 1, (.c (.s ⟨#[104, 111, 108, 100]⟩))), (3, 1, (.c (.s ⟨#[98, 97, 99, 107]⟩))), (4, 1, (.c (.s ⟨#[102, 111, 114, 107]⟩))), (5, 1, (.c (.s ⟨#[119, 97, 121]⟩))), (6, 1, (.c (.s ⟨#[106, 117, 109, 112]⟩))), (7, 1, (.c (.s ⟨#[105, 110, 105, 116]⟩))), (8, 1, (.c (.s ⟨#[108, 111, 111, 112]⟩))), (9, 1, (.c (.s ⟨#[109, 97, 114, 107]⟩))), (10, 1, (.c (.s ⟨#[110, 101, 120, 116]⟩))), (11, 1, (.c (.s ⟨#[111, 112, 101, 110]⟩))), (12, 1, (.c (.s ⟨#[99, 108, 111, 115, 101]⟩))), (13, 1, (.c (.s ⟨#[105, 110, 116, 111]⟩))), (14, 1, (.c (.s ⟨#[114, 101, 116, 114, 101, 97, 116]⟩))), (15, 1, (.c (.s ⟨#[109, 101, 101, 116]⟩))), (16, 1, (.c (.s ⟨#[99, 117, 116]⟩))), (17, 1, (.c (.s ⟨#[112, 101, 101, 107]⟩))), (18, 1, (.c (.s ⟨#[114, 101, 102, 117, 116, 101]⟩))), (19, 1, (.c (.s ⟨#[109, 97, 116, 99, 104]⟩)))]⟩,⟨some 3, none, .alloc 137 [(.s ⟨#[]⟩), (.s ⟨#[]⟩), (.s ⟨#[]⟩), (.s ⟨#[]⟩), (.s ⟨#[]⟩), (.s ⟨#[]⟩), (.s ⟨#[]⟩), (.s ⟨#[]⟩), (.s ⟨#[]⟩), (.s ⟨#[]⟩), (.s ⟨#[]⟩), (.s ⟨#[]⟩), (.s ⟨#[]⟩), (.s ⟨#[]⟩), (.s ⟨#[]⟩), (.s ⟨#[]⟩), (.s ⟨#[]⟩), (.s ⟨#[]⟩), (.s ⟨#[]⟩), (.s ⟨#[]⟩)]⟩,⟨none, none, .st 20 (.t 3) (.t 4)⟩])
 (.seq (.seq (.reg [⟨some 5, none, .mv (.t 0)⟩,⟨some 6, none, .bin .lss (.t 5) (.c (.i .i64 1))⟩,⟨some 7, none, .mv (.t 6)⟩,⟨some 8, some (7, false), .mv (.t 0)⟩,⟨some 9, some (7, false), .bin .gtr (.t 8) (.c (.i .i64 19))⟩,⟨some 10, none, .pick (.t 7) (.c (.b true)) (.t 9)⟩])
 (.cond (.t 10) (.seq (.reg [⟨some 2, none, .mv (.c (.s ⟨#[]⟩))⟩])
 (.ret))
 (.skip)))
 (.seq (.reg [⟨some 11, none, .mv (.t 0)⟩,⟨some 12, none, .iaA 20 1 (.t 3) (.t 11)⟩,⟨some 13, none, .ld (.t 12)⟩,⟨some 2, none, .mv (.t 13)⟩])
 (.ret))))
theorem fn40 : F 40 = .go 14 [.t 2] v40 := by rw [F, fnOf, Tryz.func40]; kernel_rfl

def v41 : VC :=
 .seq (.reg [⟨some 4, none, .mv (.c (.s ⟨#[]⟩))⟩])
 (.seq (.seq (.reg [⟨some 11, none, .mv (.t 0)⟩,⟨some 12, none, .len 1 (.t 11)⟩])
 (.blk 0 (.seq (.reg [⟨some 14, none, .bin .eql (.t 12) (.c (.i .i64 0))⟩,⟨some 13, none, .mv (.t 14)⟩])
 (.cond (.t 13) (.seq (.reg [⟨some 4, none, .mv (.c (.s ⟨#[]⟩))⟩])
 (.ret))
 (.seq (.reg [⟨some 16, none, .bin .eql (.t 12) (.c (.i .i64 1))⟩,⟨some 15, none, .mv (.t 16)⟩])
 (.cond (.t 15) (.seq (.reg [⟨some 17, none, .mv (.t 0)⟩,⟨some 18, none, .ia 1 (.t 17) (.c (.i .i64 0))⟩,⟨some 19, none, .ld (.t 18)⟩,⟨some 4, none, .mv (.t 19)⟩])
 (.ret))
 (.skip)))))))
 (.seq (.reg [⟨some 5, none, .mv (.c (.i .i64 0))⟩])
 (.seq (.seq (.reg [⟨some 20, none, .mv (.t 1)⟩,⟨some 21, none, .len 0 (.t 20)⟩,⟨some 22, none, .bin .gtr (.t 21) (.c (.i .i64 0))⟩])
 (.cond (.t 22) (.seq (.seq (.reg [⟨some 23, none, .mv (.t 1)⟩,⟨some 24, none, .len 0 (.t 23)⟩,⟨some 25, none, .mv (.t 0)⟩,⟨some 26, none, .len 1 (.t 25)⟩,⟨some 27, none, .bin .sub (.t 26) (.c (.i .i64 1))⟩,⟨some 28, none, .bin .quo (.c (.i .i64 9223372036854775807)) (.t 27)⟩,⟨some 29, none, .bin .geq (.t 24) (.t 28)⟩])
 (.cond (.t 29) (.reg [⟨some 30, none, .mif 9 (.c (.s ⟨#[115, 116, 114, 105, 110, 103, 115, 58, 32, 74, 111, 105, 110, 32, 111, 117, 116, 112, 117, 116, 32, 108, 101, 110, 103, 116, 104, 32, 111, 118, 101, 114, 102, 108, 111, 119]⟩))⟩,⟨none, none, .bad⟩])
 (.skip)))
 (.reg [⟨some 31, none, .mv (.t 5)⟩,⟨some 32, none, .mv (.t 1)⟩,⟨some 33, none, .len 0 (.t 32)⟩,⟨some 34, none, .mv (.t 0)⟩,⟨some 35, none, .len 1 (.t 34)⟩,⟨some 36, none, .bin .sub (.t 35) (.c (.i .i64 1))⟩,⟨some 37, none, .bin .mul (.t 33) (.t 36)⟩,⟨some 38, none, .bin .add (.t 31) (.t 37)⟩,⟨some 5, none, .mv (.t 38)⟩]))
 (.skip)))
 (.seq (.seq (.reg [⟨some 39, none, .mv (.t 0)⟩,⟨some 40, none, .len 1 (.t 39)⟩,⟨some 41, none, .mv (.c (.i .i64 0))⟩])
 (.blk 1 (.loop (.seq (.reg [⟨some 42, none, .bin .lss (.t 41) (.t 40)⟩])
 (.seq (.cond (.t 42) (.skip)
 (.exit 1))
 (.seq (.blk 2 (.seq (.reg [⟨some 43, none, .ia 1 (.t 39) (.t 41)⟩,⟨some 44, none, .ld (.t 43)⟩,⟨some 7, none, .mv (.t 44)⟩])
 (.seq (.seq (.reg [⟨some 45, none, .mv (.t 7)⟩,⟨some 46, none, .len 0 (.t 45)⟩,⟨some 47, none, .mv (.t 5)⟩,⟨some 48, none, .bin .sub (.c (.i .i64 9223372036854775807)) (.t 47)⟩,⟨some 49, none, .bin .gtr (.t 46) (.t 48)⟩])
 (.cond (.t 49) (.reg [⟨some 50, none, .mif 9 (.c (.s ⟨#[115, 116, 114, 105, 110, 103, 115, 58, 32, 74, 111, 105, 110, 32, 111, 117, 116, 112, 117, 116, 32, 108, 101, 110, 103, 116, 104, 32, 111, 118, 101, 114, 102, 108, 111, 119]⟩))⟩,⟨none, none, .bad⟩])
 (.skip)))
 (.reg [⟨some 51, none, .mv (.t 5)⟩,⟨some 52, none, .mv (.t 7)⟩,⟨some 53, none, .len 0 (.t 52)⟩,⟨some 54, none, .bin .add (.t 51) (.t 53)⟩,⟨some 5, none, .mv (.t 54)⟩]))))
 (.reg [⟨some 55, none, .bin .add (.t 41) (.c (.i .i64 1))⟩,⟨some 41, none, .mv (.t 55)⟩])))))))
 (.seq (.reg [⟨some 8, none, .alloc 140 [(.p none), (.sl none 0 0 true)]⟩])
 (.seq (.reg [⟨some 56, none, .mv (.t 5)⟩,⟨some 57, none, .call 79 [(.t 8), (.t 56)]⟩])
 (.seq (.reg [⟨some 58, none, .mv (.t 0)⟩,⟨some 59, none, .ia 1 (.t 58) (.c (.i .i64 0))⟩,⟨some 60, none, .ld (.t 59)⟩,⟨some 61, none, .call 80 [(.t 8), (.t 60)]⟩])
 (.seq (.seq (.reg [⟨some 62, none, .mv (.t 0)⟩,⟨some 63, none, .slc 1 (.t 62) (some (.c (.i .i64 1))) none none⟩,⟨some 64, none, .len 1 (.t 63)⟩,⟨some 65, none, .mv (.c (.i .i64 0))⟩])
 (.blk 3 (.loop (.seq (.reg [⟨some 66, none, .bin .lss (.t 65) (.t 64)⟩])
 (.seq (.cond (.t 66) (.skip)
 (.exit 3))
 (.seq (.blk 4 (.seq (.reg [⟨some 67, none, .ia 1 (.t 63) (.t 65)⟩,⟨some 68, none, .ld (.t 67)⟩,⟨some 10, none, .mv (.t 68)⟩])
 (.seq (.reg [⟨some 69, none, .mv (.t 1)⟩,⟨some 70, none, .call 80 [(.t 8), (.t 69)]⟩])
 (.reg [⟨some 71, none, .mv (.t 10)⟩,⟨some 72, none, .call 80 [(.t 8), (.t 71)]⟩]))))
 (.reg [⟨some 73, none, .bin .add (.t 65) (.c (.i .i64 1))⟩,⟨some 65, none, .mv (.t 73)⟩])))))))
 (.seq (.reg [⟨some 74, none, .call 81 [(.t 8)]⟩,⟨some 4, none, .mv (.t 74)⟩])
 (.ret))))))))))
theorem fn41 : F 41 = .go 75 [.t 4] v41 := by rw [F, fnOf, Tryz.func41]; kernel_rfl

def v42 : VC :=
 .seq (.reg [⟨some 2, none, .mv (.c (.s ⟨#[]⟩))⟩])
 (.seq (.reg [⟨some 3, none, .mv (.c (.sl none 0 0 true))⟩])
 (.seq (.seq (.reg [⟨some 8, none, .mv (.t 0)⟩,⟨some 9, none, .len 1 (.t 8)⟩,⟨some 10, none, .mv (.c (.i .i64 0))⟩])
 (.blk 0 (.loop (.seq (.reg [⟨some 11, none, .bin .lss (.t 10) (.t 9)⟩])
 (.seq (.cond (.t 11) (.skip)
 (.exit 0))
 (.seq (.blk 1 (.seq (.reg [⟨some 12, none, .ia 1 (.t 8) (.t 10)⟩,⟨some 13, none, .ld (.t 12)⟩,⟨some 5, none, .mv (.t 13)⟩])
 (.seq (.reg [⟨some 14, none, .mv (.t 5)⟩])
 (.blk 2 (.seq (.reg [⟨some 15, none, .tas 3 (.i .i64 0) (.t 14)⟩,⟨some 16, none, .ext (.t 15) 1⟩,⟨some 17, none, .ext (.t 15) 0⟩])
 (.cond (.t 16) (.seq (.reg [⟨some 6, none, .mv (.t 17)⟩])
 (.reg [⟨some 18, none, .mv (.t 3)⟩,⟨some 19, none, .mv (.t 6)⟩,⟨some 20, none, .call 37 [(.t 19)]⟩,⟨some 21, none, .bsl 1 1 [(.s ⟨#[]⟩)] [(0, 1, (.t 20))]⟩,⟨some 22, none, .app ⟨1, (some 9)⟩ 16 (.t 18) (.t 21)⟩,⟨some 3, none, .mv (.t 22)⟩]))
 (.seq (.reg [⟨some 23, none, .tas 9 (.s ⟨#[]⟩) (.t 14)⟩,⟨some 24, none, .ext (.t 23) 1⟩,⟨some 25, none, .ext (.t 23) 0⟩])
 (.cond (.t 24) (.seq (.reg [⟨some 7, none, .mv (.t 25)⟩])
 (.reg [⟨some 26, none, .mv (.t 3)⟩,⟨some 27, none, .mv (.t 7)⟩,⟨some 28, none, .bsl 1 1 [(.s ⟨#[]⟩)] [(0, 1, (.t 27))]⟩,⟨some 29, none, .app ⟨1, (some 9)⟩ 16 (.t 26) (.t 28)⟩,⟨some 3, none, .mv (.t 29)⟩]))
 (.skip)))))))))
 (.reg [⟨some 30, none, .bin .add (.t 10) (.c (.i .i64 1))⟩,⟨some 10, none, .mv (.t 30)⟩])))))))
 (.seq (.reg [⟨some 31, none, .mv (.t 3)⟩,⟨some 32, none, .call 41 [(.t 31), (.c (.s ⟨#[32]⟩))]⟩,⟨some 2, none, .mv (.t 32)⟩])
 (.ret))))
theorem fn42 : F 42 = .go 33 [.t 2] v42 := by rw [F, fnOf, Tryz.func42]; kernel_rfl

def v43 : VC :=
 .seq (.reg [⟨some 6, none, .box 4 (xt 2)⟩,⟨some 8, none, .mv (.c (.sl none 0 0 true))⟩,oi 9 0])
 (.seq (.seq (.reg [oa 16 3,⟨some 17, none, .len 0 (xt 16)⟩,⟨some 18, none, .bin .gtr (xt 17) (xi 65536)⟩])
 (.cond (xt 18) (.seq (.reg [⟨some 8, none, .mv (.c (.sl none 0 0 true))⟩,oi 9 15])
 (.ret))
 (.skip)))
 (.seq (.reg [oa 20 0,oa 21 1,od 22 4 6,⟨some 23, none, .call 31 [(xt 20), (xt 21), (xt 22)]⟩,oa 19 23,oe 24 19 0,oe 25 19 1,oe 26 19 2,⟨some 11, none, .alloc 32 [(.i .i64 0)]⟩,⟨some 12, none, .alloc 3 [(.i .i64 0)]⟩,oa 10 24,os 1 11 25,os 1 12 26])
 (.seq (.reg [⟨some 13, none, .alloc 23 [(.p none)]⟩])
 (.seq (.seq (.reg [ol 27 11,⟨some 28, none, .bin .eql (xt 27) (xi 0)⟩])
 (.cond (xt 28) (.reg [oa 29 10,⟨some 30, none, .call 32 [(xt 29)]⟩,os 1 13 30])
 (.skip)))
 (.seq (.reg [⟨some 14, none, .alloc 42 [(.sl none 0 0 true)]⟩])
 (.seq (.seq (.reg [oa 31 3,⟨some 32, none, .call 82 [(xt 31)]⟩])
 (.blk 0 (.rfn (xt 32) [33] (.reg [oa 15 33])
 (.blk 1 (.seq (.reg [oa 34 15,⟨some 35, none, .call 83 [(xt 34), (.c (.s ⟨#[10]⟩))]⟩,oa 15 35])
 (.seq (.reg [ol 36 14,oa 37 15,⟨some 38, none, .bin .add (.c (.s ⟨#[62, 32]⟩)) (xt 37)⟩,⟨some 39, none, .bsl 1 1 [(.s ⟨#[]⟩)] [(0, 1, (xt 38))]⟩,⟨some 40, none, .app ⟨1, (some 9)⟩ 16 (xt 36) (xt 39)⟩,os 1 14 40])
 (.seq (.seq (.reg [ol 41 13,⟨some 42, none, .eqn .p false (xt 41) (.c (.p none))⟩])
 (.cond (xt 42) (.seq (.regd [ol 43 14,ol 44 11,⟨some 45, none, .call 84 [(xt 44)]⟩,⟨some 46, none, .bin .add (xt 45) (.c (.s ⟨#[32, 97, 116, 32]⟩))⟩,ol 47 12,⟨some 48, none, .call 37 [(xt 47)]⟩,ob 49 .add 46 48,⟨some 50, none, .bsl 1 1 [(.s ⟨#[]⟩)] [(0, 1, (xt 49))]⟩,⟨some 51, none, .app ⟨1, (some 9)⟩ 16 (xt 43) (xt 50)⟩,os 1 14 51] [(0, 2), (0, 5), (0, 7), (4, 2)])
 (.exit 1))
 (.skip)))
 (.regd [ol 52 14,ol 53 13,oa 54 15,⟨some 55, none, .call 85 [(xt 53), (xt 54)]⟩,⟨some 56, none, .app ⟨1, (some 9)⟩ 16 (xt 52) (xt 55)⟩,os 1 14 56] [(0, 3)]))))))))
 (.seq (.reg [ol 57 14,oa 8 57,oi 9 0])
 (.ret))))))))
theorem fn43 : F 43 = .go 58 [.t 8, .t 9] v43 := by rw [F, fnOf, Tryz.func43]; kernel_rfl

def v44 : VC :=
 .seq (.reg [⟨some 4, none, .mv (.c (.b false))⟩])
 (.seq (.seq (.reg [oa 6 0,oz 7 6,oa 8 1,oz 9 8,ob 10 .neq 7 9])
 (.cond (xt 10) (.seq (.reg [⟨some 4, none, .mv (.c (.b false))⟩])
 (.ret))
 (.skip)))
 (.seq (.seq (.reg [oa 11 0,oz 12 11,oi 13 0])
 (.blk 0 (.loop (.seq (.reg [ob 14 .lss 13 12])
 (.seq (.cond (xt 14) (.skip)
 (.exit 0))
 (.seq (.blk 1 (.seq (.reg [oa 15 13,oa 5 15])
 (.seq (.regd [oa 16 0,oa 17 5,⟨some 18, none, .ia 1 (xt 16) (xt 17)⟩,ol 19 18,oa 20 1,oa 21 5,⟨some 22, none, .ia 1 (xt 20) (xt 21)⟩,ol 23 22,ob 24 .neq 19 23] [])
 (.cond (xt 24) (.seq (.reg [⟨some 4, none, .mv (.c (.b false))⟩])
 (.ret))
 (.skip)))))
 (.reg [⟨some 25, none, .bin .add (xt 13) (xi 1)⟩,oa 13 25])))))))
 (.seq (.reg [⟨some 4, none, .mv (.c (.b true))⟩])
 (.ret))))
theorem fn44 : F 44 = .go 26 [.t 4] v44 := by rw [F, fnOf, Tryz.func44]; kernel_rfl

def v45 : VC :=
 .seq (.reg [⟨some 1, none, .box 4 (.t 0)⟩,⟨some 2, none, .mv (.c (.b false))⟩])
 (.seq (.reg [⟨some 6, none, .fa 0 (.t 1)⟩,⟨some 7, none, .ld (.t 6)⟩,⟨some 8, none, .call 86 [(.t 7)]⟩,⟨some 5, none, .mv (.t 8)⟩,⟨some 9, none, .ext (.t 5) 0⟩,⟨some 10, none, .ext (.t 5) 1⟩,⟨some 3, none, .mv (.t 9)⟩,⟨some 4, none, .mv (.t 10)⟩])
 (.seq (.blk 0 (.seq (.reg [⟨some 12, none, .fa 0 (.t 1)⟩,⟨some 13, none, .ld (.t 12)⟩,⟨some 14, none, .call 87 [(.t 13)]⟩,⟨some 15, none, .bin .eql (.t 14) (.c (.s ⟨#[]⟩))⟩,⟨some 11, none, .mv (.t 15)⟩])
 (.cond (.t 11) (.seq (.reg [⟨some 2, none, .mv (.c (.b false))⟩])
 (.ret))
 (.seq (.reg [⟨some 17, none, .fa 0 (.t 1)⟩,⟨some 18, none, .ld (.t 17)⟩,⟨some 19, none, .bin .eql (.t 18) (.c (.i .i64 7))⟩,⟨some 16, none, .mv (.t 19)⟩])
 (.cond (.t 16) (.seq (.reg [⟨some 20, none, .fa 1 (.t 1)⟩,⟨some 21, none, .ld (.t 20)⟩,⟨some 22, none, .bin .eql (.t 21) (.c (.i .i64 0))⟩,⟨some 23, none, .mv (.t 22)⟩,⟨some 24, some (23, true), .fa 2 (.t 1)⟩,⟨some 25, some (23, true), .fa 0 (.t 24)⟩,⟨some 26, some (23, true), .ld (.t 25)⟩,⟨some 27, some (23, true), .call 39 [(.t 26)]⟩,⟨some 28, some (23, true), .bin .neq (.t 27) (.c (.s ⟨#[]⟩))⟩,⟨some 29, none, .pick (.t 23) (.t 28) (.c (.b false))⟩,⟨some 30, none, .mv (.t 29)⟩,⟨some 31, some (30, true), .fa 2 (.t 1)⟩,⟨some 32, some (30, true), .fa 1 (.t 31)⟩,⟨some 33, some (30, true), .ld (.t 32)⟩,⟨some 34, some (30, true), .bin .geq (.t 33) (.c (.i .i64 0))⟩,⟨some 35, none, .pick (.t 30) (.t 34) (.c (.b false))⟩,⟨some 36, none, .mv (.t 35)⟩,⟨some 37, some (36, true), .fa 2 (.t 1)⟩,⟨some 38, some (36, true), .fa 1 (.t 37)⟩,⟨some 39, some (36, true), .ld (.t 38)⟩,⟨some 40, some (36, true), .bin .leq (.t 39) (.c (.i .i64 2147483647))⟩,⟨some 41, none, .pick (.t 36) (.t 40) (.c (.b false))⟩,⟨some 2, none, .mv (.t 41)⟩])
 (.ret))
 (.seq (.reg [⟨some 43, none, .mv (.t 4)⟩,⟨some 44, none, .bin .eql (.t 43) (.c (.i .i64 0))⟩,⟨some 42, none, .mv (.t 44)⟩])
 (.cond (.t 42) (.seq (.reg [⟨some 45, none, .ldn 4 (.t 1)⟩,⟨some 46, none, .fa 0 (.t 1)⟩,⟨some 47, none, .ld (.t 46)⟩,⟨some 48, none, .build [(.i .i64 0), (.i .i64 0), (.i .i64 0), (.i .i64 0)] [(0, 1, (.t 47))]⟩,⟨some 49, none, .bad⟩,⟨some 2, none, .mv (.t 49)⟩])
 (.ret))
 (.skip))))))))
 (.seq (.reg [⟨some 50, none, .fa 2 (.t 1)⟩,⟨some 51, none, .ldn 2 (.t 50)⟩,⟨some 52, none, .build [(.i .i64 0), (.i .i64 0)] []⟩,⟨some 53, none, .eqa false [(0, .i), (1, .i)] (.t 51) (.t 52)⟩,⟨some 54, none, .mv (.t 53)⟩,⟨some 55, some (54, true), .fa 1 (.t 1)⟩,⟨some 56, some (54, true), .ld (.t 55)⟩,⟨some 57, some (54, true), .bin .geq (.t 56) (.c (.i .i64 0))⟩,⟨some 58, none, .pick (.t 54) (.t 57) (.c (.b false))⟩,⟨some 59, none, .mv (.t 58)⟩,⟨some 60, some (59, true), .fa 1 (.t 1)⟩,⟨some 61, some (59, true), .ld (.t 60)⟩,⟨some 62, some (59, true), .bin .leq (.t 61) (.c (.i .i64 2147483647))⟩,⟨some 63, none, .pick (.t 59) (.t 62) (.c (.b false))⟩,⟨some 2, none, .mv (.t 63)⟩])
 (.ret))))
theorem fn45 : F 45 = .go 64 [.t 2] v45 := by rw [F, fnOf, Tryz.func45]; kernel_rfl

def v46 : VC :=
 .seq (.reg [⟨some 3, none, .box 4 (.t 1)⟩,⟨some 4, none, .mv (.c (.sl none 0 0 true))⟩,⟨some 5, none, .mv (.c (.i .i64 0))⟩])
 (.seq (.reg [⟨some 6, none, .mv (.c (.i .i64 0))⟩])
 (.seq (.seq (.reg [⟨some 7, none, .fa 0 (.t 3)⟩,⟨some 8, none, .ld (.t 7)⟩])
 (.blk 0 (.seq (.reg [⟨some 10, none, .bin .eql (.t 8) (.c (.i .i64 7))⟩,⟨some 9, none, .mv (.t 10)⟩])
 (.cond (.t 9) (.reg [⟨some 11, none, .mv (.t 0)⟩,⟨some 12, none, .fa 2 (.t 3)⟩,⟨some 13, none, .ldn 2 (.t 12)⟩,⟨some 14, none, .call 9 [(.t 11), (.t 13)]⟩,⟨some 6, none, .mv (.t 14)⟩])
 (.seq (.reg [⟨some 16, none, .bin .eql (.t 8) (.c (.i .i64 8))⟩,⟨some 15, none, .mv (.t 16)⟩])
 (.cond (.t 15) (.reg [⟨some 17, none, .mv (.t 0)⟩,⟨some 18, none, .fa 1 (.t 3)⟩,⟨some 19, none, .ld (.t 18)⟩,⟨some 20, none, .call 88 [(.t 17), (.t 19)]⟩,⟨some 6, none, .mv (.t 20)⟩])
 (.skip)))))))
 (.seq (.seq (.reg [⟨some 21, none, .mv (.t 6)⟩,⟨some 22, none, .bin .neq (.t 21) (.c (.i .i64 0))⟩])
 (.cond (.t 22) (.seq (.reg [⟨some 23, none, .mv (.t 6)⟩,⟨some 4, none, .mv (.c (.sl none 0 0 true))⟩,⟨some 5, none, .mv (.t 23)⟩])
 (.ret))
 (.skip)))
 (.seq (.reg [⟨some 24, none, .mv (.t 0)⟩,⟨some 25, none, .call 10 [(.t 24)]⟩,⟨some 26, none, .call 16 [(.t 25)]⟩,⟨some 4, none, .mv (.t 26)⟩,⟨some 5, none, .mv (.c (.i .i64 0))⟩])
 (.ret)))))
theorem fn46 : F 46 = .go 27 [.t 4, .t 5] v46 := by rw [F, fnOf, Tryz.func46]; kernel_rfl

def v48 : VC :=
 .seq (.reg [⟨some 2, none, .mv (.c (.sl none 0 0 true))⟩,oi 3 0])
 (.seq (.reg [oa 8 0,⟨some 9, none, .call 21 [(xt 8)]⟩,oa 7 9,oe 10 7 0,oe 11 7 1,⟨some 4, none, .alloc 60 [z0, z0, z0, z0, z0, z0, z0, (.sl none 0 0 true)]⟩,os 8 4 10,oa 5 11])
 (.seq (.seq (.reg [oa 12 5,⟨some 13, none, .bin .neq (xt 12) (xi 0)⟩])
 (.cond (xt 13) (.seq (.reg [oa 14 5,⟨some 2, none, .mv (.c (.sl none 0 0 true))⟩,oa 3 14])
 (.ret))
 (.skip)))
 (.seq (.reg [oa 15 0,⟨some 16, none, .call 89 [(xt 15)]⟩,oa 6 16])
 (.seq (.regd [oa 17 6,oc 18 17,of 19 0 18,ol 20 19,oa 21 6,oc 22 21,of 23 1 22,od 24 3 23,oa 25 0,⟨some 26, none, .call 30 [(xt 25)]⟩,od 27 8 4,⟨some 28, none, .call 92 [(xt 20), (xt 24), (xt 26), (xt 27)]⟩,⟨some 29, none, .bsl 1 1 [(.s ⟨#[]⟩)] [(0, 1, (xt 28))]⟩,oa 2 29,oi 3 0] [(3, 9), (7, 9), (10, 9)])
 (.ret)))))
theorem fn48 : F 48 = .go 30 [.t 2, .t 3] v48 := by rw [F, fnOf, Tryz.func48]; kernel_rfl

def v49 : VC :=
 .seq (.reg [⟨some 3, none, .box 4 (xt 1)⟩,oi 4 0])
 (.seq (.seq (.reg [of 5 0 3,ol 6 5])
 (.blk 0 (.seq (.reg [⟨some 8, none, .bin .eql (xt 6) (xi 1)⟩,oa 7 8])
 (.cond (xt 7) (.seq (.reg [of 9 1 3,ol 10 9,oa 11 0,⟨some 12, none, .fnc 94 [(xt 11)] []⟩,⟨some 13, none, .call 93 [(xt 10), (xt 12)]⟩,oa 4 13])
 (.ret))
 (.seq (.reg [⟨some 15, none, .bin .eql (xt 6) (xi 2)⟩,oa 14 15])
 (.cond (xt 14) (.seq (.reg [of 16 1 3,ol 17 16,oa 18 0,⟨some 19, none, .fnc 95 [(xt 18)] []⟩,⟨some 20, none, .call 93 [(xt 17), (xt 19)]⟩,oa 4 20])
 (.ret))
 (.seq (.reg [⟨some 22, none, .bin .eql (xt 6) (xi 3)⟩,oa 21 22])
 (.cond (xt 21) (.seq (.reg [oa 23 0,of 24 1 3,ol 25 24,⟨some 26, none, .call 96 [(xt 23), (xt 25)]⟩,oa 4 26])
 (.ret))
 (.seq (.reg [⟨some 28, none, .bin .eql (xt 6) (xi 4)⟩,oa 27 28])
 (.cond (xt 27) (.seq (.reg [oa 29 0,⟨some 30, none, .call 97 [(xt 29)]⟩,oa 4 30])
 (.ret))
 (.seq (.reg [⟨some 32, none, .bin .eql (xt 6) (xi 5)⟩,oa 31 32])
 (.cond (xt 31) (.seq (.reg [oa 33 0,⟨some 34, none, .call 98 [(xt 33)]⟩,oa 4 34])
 (.ret))
 (.skip)))))))))))))
 (.seq (.reg [oa 35 0,⟨some 36, none, .call 29 [(xt 35)]⟩,oa 4 36])
 (.ret)))
theorem fn49 : F 49 = .go 37 [.t 4] v49 := by rw [F, fnOf, Tryz.func49]; kernel_rfl

def v50 : VC :=
 .seq (.reg [⟨some 2, none, .mv (.c (.i .i64 0))⟩])
 (.seq (.reg [⟨some 3, none, .mv (.t 0)⟩,⟨some 4, none, .nc (.t 3)⟩,⟨some 5, none, .fa 0 (.t 4)⟩,⟨some 6, none, .ld (.t 5)⟩,⟨some 7, none, .nc (.t 6)⟩,⟨some 8, none, .fa 9 (.t 7)⟩,⟨some 9, none, .ld (.t 8)⟩,⟨some 10, none, .call 25 [(.t 9)]⟩,⟨some 2, none, .mv (.t 10)⟩])
 (.ret))
theorem fn50 : F 50 = .go 11 [.t 2] v50 := by rw [F, fnOf, Tryz.func50]; kernel_rfl

def v51 : VC :=
 .seq (.reg [⟨some 1, none, .box 8 (.t 0)⟩,⟨some 2, none, .alloc 60 [(.i .i64 0), (.i .i64 0), (.i .i64 0), (.i .i64 0), (.i .i64 0), (.i .i64 0), (.i .i64 0), (.sl none 0 0 true)]⟩])
 (.seq (.reg [⟨some 3, none, .fa 7 (.t 1)⟩,⟨some 4, none, .ld (.t 3)⟩,⟨some 5, none, .call 99 [(.t 4)]⟩,⟨some 6, none, .fa 7 (.t 1)⟩,⟨none, none, .st 1 (.t 6) (.t 5)⟩])
 (.seq (.reg [⟨some 7, none, .ldn 8 (.t 1)⟩,⟨none, none, .st 8 (.t 2) (.t 7)⟩])
 (.ret)))
theorem fn51 : F 51 = .go 8 [.c 2 (some 8)] v51 := by rw [F, fnOf, Tryz.func51]; kernel_rfl

def v55 : VC :=
 .seq (.reg [⟨some 6, none, .mv (.c (.p none))⟩,oi 7 0])
 (.seq (.seq (.reg [oa 8 0,⟨some 9, none, .bin .lss (xt 8) (xi 0)⟩,oa 10 9,on 11 10 0,⟨some 12, yn 10, .bin .gtr (xt 11) (xi 99)⟩,⟨some 13, none, .pick (xt 10) (.c (.b true)) (xt 12)⟩,oa 14 13,on 15 14 1,⟨some 16, yn 14, .bin .lss (xt 15) (xi 1)⟩,⟨some 17, none, .pick (xt 14) (.c (.b true)) (xt 16)⟩,oa 18 17,on 19 18 1,⟨some 20, yn 18, .bin .gtr (xt 19) (xi 1024)⟩,⟨some 21, none, .pick (xt 18) (.c (.b true)) (xt 20)⟩,oa 22 21,on 23 22 2,⟨some 24, yn 22, .bin .lss (xt 23) (xi 0)⟩,⟨some 25, none, .pick (xt 22) (.c (.b true)) (xt 24)⟩,oa 26 25,on 27 26 2,⟨some 28, yn 26, .bin .gtr (xt 27) (xi 16777216)⟩,⟨some 29, none, .pick (xt 26) (.c (.b true)) (xt 28)⟩])
 (.cond (xt 29) (.seq (.reg [⟨some 6, none, .mv (.c (.p none))⟩,oi 7 10])
 (.ret))
 (.skip)))
 (.seq (.reg [oa 30 0,oa 31 1,oa 32 2,⟨some 33, none, .build [z0, z0, z0, (.sl none 0 0 true), (.sl none 0 0 true), z0, z0, z0, z0, z0, z0, z0, (.sl none 0 0 true)] [(0, 1, (xt 30)), (1, 1, (xt 31)), (2, 1, (xt 32))]⟩,⟨some 34, none, .box 13 (xt 33)⟩,oa 6 34,oi 7 0])
 (.ret)))
theorem fn55 : F 55 = .go 35 [.t 6, .t 7] v55 := by rw [F, fnOf, Tryz.func55]; kernel_rfl

def v62 : VC :=
 .seq (.reg [⟨some 4, none, .box 8 (xt 1)⟩,⟨some 6, none, .alloc 60 [z0, z0, z0, z0, z0, z0, z0, (.sl none 0 0 true)]⟩,oi 7 0])
 (.seq (.seq (.reg [oa 11 2,⟨some 12, none, .bin .lss (xt 11) (xi 0)⟩,oa 13 12,on 14 13 2,on 15 13 0,⟨some 16, yn 13, .call 25 [(xt 15)]⟩,⟨some 17, yn 13, .bin .geq (xt 14) (xt 16)⟩,⟨some 18, none, .pick (xt 13) (.c (.b true)) (xt 17)⟩])
 (.cond (xt 18) (.seq (.reg [⟨some 19, none, .build [z0, z0, z0, z0, z0, z0, z0, (.sl none 0 0 true)] []⟩,os 8 6 19,oi 7 12])
 (.ret))
 (.skip)))
 (.seq (.seq (.reg [oa 20 2,oa 21 0,oc 22 21,of 23 1 22,ol 24 23,ob 25 .rem 20 24,⟨some 26, none, .bin .eql (xt 25) (xi 0)⟩])
 (.cond (xt 26) (.reg [oa 27 0,oc 28 27,of 29 0 28,ol 30 29,⟨some 31, none, .call 102 [(xt 30)]⟩,os 8 4 31])
 (.skip)))
 (.seq (.seq (.regd [of 32 7 4,ol 33 32,oz 34 33,oa 35 0,oc 36 35,of 37 0 36,ol 38 37,⟨some 39, none, .bin .add (xt 38) (xi 1)⟩,⟨some 40, none, .bin .mul (xi 2) (xt 39)⟩,ob 41 .neq 34 40] [])
 (.cond (xt 41) (.seq (.reg [⟨some 42, none, .build [z0, z0, z0, z0, z0, z0, z0, (.sl none 0 0 true)] []⟩,os 8 6 42,oi 7 11])
 (.ret))
 (.skip)))
 (.seq (.regd [⟨some 8, none, .alloc 60 [z0, z0, z0, z0, z0, z0, z0, (.sl none 0 0 true)]⟩,od 44 8 4,oa 45 0,oc 46 45,of 47 3 46,ol 48 47,oa 49 0,oc 50 49,of 51 4 50,ol 52 51,oa 53 2,⟨some 54, none, .ia 1 (xt 52) (xt 53)⟩,ol 55 54,⟨some 56, none, .call 103 [(xt 44), (xt 48), (xt 55)]⟩,oa 43 56,oe 57 43 0,oe 58 43 1,oe 59 43 2,os 8 8 57,oa 9 58,oa 10 59] [])
 (.seq (.seq (.reg [oa 60 10,⟨some 61, none, .bin .neq (xt 60) (xi 0)⟩])
 (.cond (xt 61) (.seq (.reg [⟨some 62, none, .build [z0, z0, z0, z0, z0, z0, z0, (.sl none 0 0 true)] []⟩,os 8 6 62,oi 7 11])
 (.ret))
 (.skip)))
 (.seq (.reg [od 63 8 8,os 8 6 63,oi 7 0])
 (.ret)))))))
theorem fn62 : F 62 = .go 64 [.c 6 (some 8), .t 7] v62 := by rw [F, fnOf, Tryz.func62]; kernel_rfl

def v63 : VC :=
 .seq (.reg [⟨some 4, none, .mv (.c (.sl none 0 0 true))⟩,oi 5 0])
 (.seq (.seq (.reg [oa 9 1,⟨some 10, none, .bin .lss (xt 9) (xi 0)⟩,oa 11 10,on 12 11 1,on 13 11 0,⟨some 14, yn 11, .call 25 [(xt 13)]⟩,⟨some 15, yn 11, .bin .geq (xt 12) (xt 14)⟩,⟨some 16, none, .pick (xt 11) (.c (.b true)) (xt 15)⟩])
 (.cond (xt 16) (.seq (.reg [⟨some 4, none, .mv (.c (.sl none 0 0 true))⟩,oi 5 12])
 (.ret))
 (.skip)))
 (.seq (.reg [⟨some 6, none, .mv (.c (.sl none 0 0 true))⟩])
 (.seq (.reg [⟨some 7, none, .alloc 60 [z0, z0, z0, z0, z0, z0, z0, (.sl none 0 0 true)]⟩])
 (.seq (.seq (.reg [oa 17 1,oa 18 1,oa 19 0,oc 20 19,of 21 1 20,ol 22 21,ob 23 .rem 18 22,ob 24 .sub 17 23,oa 8 24])
 (.blk 0 (.loop (.seq (.seq (.reg [oa 25 8,oa 26 1,ob 27 .leq 25 26])
 (.cond (xt 27) (.skip)
 (.exit 0)))
 (.seq (.blk 1 (.seq (.reg [oa 31 0,od 32 8 7,oa 33 8,⟨some 34, none, .call 62 [(xt 31), (xt 32), (xt 33)]⟩,oa 30 34,oe 35 30 0,oe 36 30 1,os 8 7 35])
 (.reg [oa 37 6,od 38 8 7,⟨some 39, none, .bsl 8 1 [z0, z0, z0, z0, z0, z0, z0, (.sl none 0 0 true)] [(0, 8, (xt 38))]⟩,⟨some 40, none, .app ⟨8, (some 60)⟩ 80 (xt 37) (xt 39)⟩,oa 6 40])))
 (.reg [oa 28 8,⟨some 29, none, .bin .add (xt 28) (xi 1)⟩,oa 8 29]))))))
 (.seq (.reg [oa 41 6,oa 4 41,oi 5 0])
 (.ret))))))
theorem fn63 : F 63 = .go 42 [.t 4, .t 5] v63 := by rw [F, fnOf, Tryz.func63]; kernel_rfl

def v64 : VC :=
 .seq (.reg [⟨some 4, none, .mv (.c (.b false))⟩])
 (.seq (.seq (.reg [oa 6 0,oz 7 6,oa 8 1,oz 9 8,ob 10 .neq 7 9])
 (.cond (xt 10) (.seq (.reg [⟨some 4, none, .mv (.c (.b false))⟩])
 (.ret))
 (.skip)))
 (.seq (.seq (.reg [oa 11 0,oz 12 11,oi 13 0])
 (.blk 0 (.loop (.seq (.reg [ob 14 .lss 13 12])
 (.seq (.cond (xt 14) (.skip)
 (.exit 0))
 (.seq (.blk 1 (.seq (.reg [oa 15 13,oa 5 15])
 (.seq (.regd [oa 16 0,oa 17 5,⟨some 18, none, .ia 1 (xt 16) (xt 17)⟩,ol 19 18,oa 20 1,oa 21 5,⟨some 22, none, .ia 1 (xt 20) (xt 21)⟩,ol 23 22,ob 24 .neq 19 23] [])
 (.cond (xt 24) (.seq (.reg [⟨some 4, none, .mv (.c (.b false))⟩])
 (.ret))
 (.skip)))))
 (.reg [⟨some 25, none, .bin .add (xt 13) (xi 1)⟩,oa 13 25])))))))
 (.seq (.reg [⟨some 4, none, .mv (.c (.b true))⟩])
 (.ret))))
theorem fn64 : F 64 = .go 26 [.t 4] v64 := by rw [F, fnOf, Tryz.func64]; kernel_rfl

def v67 : VC :=
 .seq (.reg [⟨some 1, none, .box 4 (xt 0)⟩,⟨some 2, none, .mv (.c (.b false))⟩])
 (.seq (.reg [of 4 0 1,ol 5 4,⟨some 6, none, .bin .geq (xt 5) (xi 0)⟩,oa 7 6,⟨some 8, yt 7, .fa 0 (xt 1)⟩,⟨some 9, yt 7, .ld (xt 8)⟩,⟨some 10, yt 7, .bin .leq (xt 9) (xi 1048576)⟩,⟨some 11, none, .pick (xt 7) (xt 10) (.c (.b false))⟩,oa 12 11,⟨some 13, yt 12, .fa 1 (xt 1)⟩,⟨some 14, yt 12, .ld (xt 13)⟩,⟨some 15, yt 12, .bin .geq (xt 14) (xi 0)⟩,⟨some 16, none, .pick (xt 12) (xt 15) (.c (.b false))⟩,oa 17 16,⟨some 18, yt 17, .fa 1 (xt 1)⟩,⟨some 19, yt 17, .ld (xt 18)⟩,⟨some 20, yt 17, .bin .leq (xt 19) (xi 65536)⟩,⟨some 21, none, .pick (xt 17) (xt 20) (.c (.b false))⟩,oa 3 21])
 (.seq (.reg [oa 22 3,oa 23 22,⟨some 24, yt 23, .fa 2 (xt 1)⟩,⟨some 25, yt 23, .ld (xt 24)⟩,⟨some 26, yt 23, .bin .geq (xt 25) (xi 0)⟩,⟨some 27, none, .pick (xt 23) (xt 26) (.c (.b false))⟩,oa 28 27,⟨some 29, yt 28, .fa 2 (xt 1)⟩,⟨some 30, yt 28, .ld (xt 29)⟩,⟨some 31, yt 28, .bin .leq (xt 30) (xi 16777216)⟩,⟨some 32, none, .pick (xt 28) (xt 31) (.c (.b false))⟩,oa 33 32,⟨some 34, yt 33, .fa 3 (xt 1)⟩,⟨some 35, yt 33, .ld (xt 34)⟩,⟨some 36, yt 33, .bin .geq (xt 35) (xi 1)⟩,⟨some 37, none, .pick (xt 33) (xt 36) (.c (.b false))⟩,oa 38 37,⟨some 39, yt 38, .fa 3 (xt 1)⟩,⟨some 40, yt 38, .ld (xt 39)⟩,⟨some 41, yt 38, .bin .leq (xt 40) (xi 1024)⟩,⟨some 42, none, .pick (xt 38) (xt 41) (.c (.b false))⟩,oa 2 42])
 (.ret)))
theorem fn67 : F 67 = .go 43 [.t 2] v67 := by rw [F, fnOf, Tryz.func67]; kernel_rfl

def v68 : VC :=
 .seq (.reg [⟨some 2, none, .alloc 82 [(.sl none 0 0 true), (.i .i64 0), (.sl none 0 0 true)]⟩,oi 3 0,oi 4 0])
 (.seq (.reg [oa 11 0,⟨some 12, none, .call 109 [(xt 11)]⟩,oa 10 12,oe 13 10 0,oe 14 10 1,oe 15 10 2,⟨some 5, none, .alloc 82 [(.sl none 0 0 true), (.i .i64 0), (.sl none 0 0 true)]⟩,os 3 5 13,oa 6 14,oa 7 15])
 (.seq (.seq (.reg [oa 16 6,⟨some 17, none, .bin .neq (xt 16) (xi 0)⟩])
 (.cond (xt 17) (.seq (.reg [⟨some 18, none, .build [(.sl none 0 0 true), (.i .i64 0), (.sl none 0 0 true)] []⟩,oa 19 6,oa 20 7,os 3 2 18,oa 3 19,oa 4 20])
 (.ret))
 (.skip)))
 (.seq (.seq (.reg [od 22 3 5,⟨some 23, none, .call 110 [(xt 22)]⟩,oa 21 23,oe 24 21 0,oe 25 21 1,oa 8 24,oa 9 25])
 (.seq (.reg [oa 26 8,⟨some 27, none, .bin .neq (xt 26) (xi 0)⟩])
 (.cond (xt 27) (.seq (.reg [⟨some 28, none, .build [(.sl none 0 0 true), (.i .i64 0), (.sl none 0 0 true)] []⟩,oa 29 8,oa 30 9,os 3 2 28,oa 3 29,oa 4 30])
 (.ret))
 (.skip))))
 (.seq (.reg [od 31 3 5,os 3 2 31,oi 3 0,oi 4 0])
 (.ret)))))
theorem fn68 : F 68 = .go 32 [.c 2 (some 3), .t 3, .t 4] v68 := by rw [F, fnOf, Tryz.func68]; kernel_rfl

def v69 : VC :=
 .seq (.reg [⟨some 2, none, .alloc 84 [(.sl none 0 0 true)]⟩,oi 3 0])
 (.seq (.reg [oa 5 0,⟨some 6, none, .call 111 [(xt 5)]⟩,oa 4 6])
 (.seq (.seq (.reg [oa 7 4,oz 8 7,⟨some 9, none, .bin .gtr (xt 8) (xi 65536)⟩])
 (.cond (xt 9) (.seq (.reg [⟨some 10, none, .build [(.sl none 0 0 true)] []⟩,os 1 2 10,oi 3 15])
 (.ret))
 (.skip)))
 (.seq (.reg [oa 11 4,⟨some 12, none, .build [(.sl none 0 0 true)] [(0, 1, (xt 11))]⟩,os 1 2 12,oi 3 0])
 (.ret))))
theorem fn69 : F 69 = .go 13 [.c 2 (some 1), .t 3] v69 := by rw [F, fnOf, Tryz.func69]; kernel_rfl

def v70 : VC :=
 .seq (.reg [⟨some 1, none, .box 3 (xt 0)⟩,⟨some 2, none, .alloc 41 [(.sl none 0 0 true), (.sl none 0 0 true), (.sl none 0 0 true), (.i .i64 0)]⟩])
 (.seq (.regd [od 4 3 1,od 5 3 1,⟨some 6, none, .call 112 [(xt 5)]⟩,⟨some 7, none, .build [(.sl none 0 0 true), (.sl none 0 0 true), (.sl none 0 0 true), (.i .i64 0), (.sl none 0 0 true), (.i .i64 0), (.sl none 0 0 true), (.sl none 0 0 true)] [(4, 3, (xt 4)), (7, 1, (xt 6))]⟩,⟨some 8, none, .box 8 (xt 7)⟩,oa 3 8] [(0, 2)])
 (.seq (.reg [oa 9 3,of 10 1 1,ol 11 10,oc 12 9,of 13 0 12,of 14 3 13,os 1 14 11])
 (.seq (.seq (.reg [of 15 0 1,ol 16 15,oz 17 16,⟨some 18, none, .bin .gtr (xt 17) (xi 0)⟩])
 (.cond (xt 18) (.reg [oa 19 3,⟨some 20, none, .call 113 [(xt 19), (xi 0)]⟩])
 (.skip)))
 (.seq (.reg [oa 21 3,⟨some 22, none, .call 114 [(xt 21), (xi 0), (xi 19), (xi 0), (xi 0), (xi 0)]⟩])
 (.seq (.reg [oa 23 3,oc 24 23,of 25 0 24,od 26 4 25,os 4 2 26])
 (.ret))))))
theorem fn70 : F 70 = .go 27 [.c 2 (some 4)] v70 := by rw [F, fnOf, Tryz.func70]; kernel_rfl

def v71 : VC :=
 .seq (.reg [⟨some 3, none, .box 4 (xt 0)⟩,⟨some 4, none, .box 1 (xt 1)⟩,⟨some 5, none, .box 3 (xt 2)⟩,⟨some 6, none, .mv (.c (.p none))⟩,oi 7 0])
 (.seq (.seq (.reg [od 11 4 3,⟨some 12, none, .call 115 [(xt 11)]⟩,⟨some 13, none, .un .not (xt 12)⟩])
 (.cond (xt 13) (.seq (.reg [⟨some 6, none, .mv (.c (.p none))⟩,oi 7 50])
 (.ret))
 (.skip)))
 (.seq (.seq (.regd [of 14 0 5,ol 15 14,⟨some 16, none, .bin .lss (xt 15) (xi 0)⟩,oa 17 16,⟨some 18, yn 17, .fa 0 (xt 5)⟩,⟨some 19, yn 17, .ld (xt 18)⟩,⟨some 20, yn 17, .bin .gtr (xt 19) (xi 1048576)⟩,⟨some 21, none, .pick (xt 17) (.c (.b true)) (xt 20)⟩,oa 22 21,⟨some 23, yn 22, .fa 2 (xt 5)⟩,⟨some 24, yn 22, .ld (xt 23)⟩,⟨some 25, yn 22, .bin .lss (xt 24) (xi 0)⟩,⟨some 26, none, .pick (xt 22) (.c (.b true)) (xt 25)⟩,oa 27 26,⟨some 28, yn 27, .fa 2 (xt 5)⟩,⟨some 29, yn 27, .ld (xt 28)⟩,⟨some 30, yn 27, .ldn 1 (xt 4)⟩,⟨some 31, yn 27, .call 116 [(xt 30)]⟩,⟨some 32, yn 27, .bin .gtr (xt 29) (xt 31)⟩,⟨some 33, none, .pick (xt 27) (.c (.b true)) (xt 32)⟩] [(15, 17)])
 (.cond (xt 33) (.seq (.reg [⟨some 6, none, .mv (.c (.p none))⟩,oi 7 10])
 (.ret))
 (.skip)))
 (.seq (.reg [of 35 1 5,ol 36 35,⟨some 37, none, .call 117 [(xt 36)]⟩,oa 34 37,oe 38 34 0,oe 39 34 1,oa 8 38,oa 9 39])
 (.seq (.seq (.reg [oa 40 9,⟨some 41, none, .bin .neq (xt 40) (xi 0)⟩])
 (.cond (xt 41) (.seq (.reg [oa 42 9,⟨some 6, none, .mv (.c (.p none))⟩,oa 7 42])
 (.ret))
 (.skip)))
 (.seq (.reg [od 43 4 3,od 44 1 4,od 45 3 5,oa 46 8,of 47 2 5,ol 48 47,⟨some 49, none, .build [(.sl none 0 0 true), (.sl none 0 0 true), (.sl none 0 0 true), (.i .i64 0), (.sl none 0 0 true), z0, z0, z0, (.p none), (.p none), z0, z0, z0, z0, z0, (.b false), (.b false), z0, z0, z0, z0, z0, z0, z0, (.sl none 0 0 true), (.b false)] [(0, 4, (xt 43)), (4, 1, (xt 44)), (5, 3, (xt 45)), (9, 1, (xt 46)), (15, 1, (.c (.b true))), (12, 1, (xt 48))]⟩,⟨some 50, none, .box 26 (xt 49)⟩,oa 10 50])
 (.seq (.seq (.reg [oa 52 10,oa 53 10,of 54 2 3,ol 55 54,oz 56 55,⟨some 57, none, .call 119 [(xt 53), (xt 56)]⟩,⟨some 58, none, .call 118 [(xt 57), (xi (-1))]⟩,oa 51 58,oe 59 51 0,oe 60 51 1,oc 61 52,of 62 8 61,os 1 62 59,oa 9 60])
 (.seq (.reg [oa 63 9,⟨some 64, none, .bin .neq (xt 63) (xi 0)⟩])
 (.cond (xt 64) (.seq (.reg [oa 65 9,⟨some 6, none, .mv (.c (.p none))⟩,oa 7 65])
 (.ret))
 (.skip))))
 (.seq (.reg [oa 66 10,oa 6 66,oi 7 0])
 (.ret))))))))
theorem fn71 : F 71 = .go 67 [.t 6, .t 7] v71 := by rw [F, fnOf, Tryz.func71]; kernel_rfl

def v72 : VC :=
 .blk 0 (.loop (.blk 1 (.seq (.reg [oa 7 1,⟨some 8, none, .call 120 [(xt 7)]⟩,oa 6 8,oe 9 6 0,oe 10 6 1,⟨some 4, none, .alloc 60 [z0, z0, z0, z0, z0, z0, z0, (.sl none 0 0 true)]⟩,os 8 4 9,oa 5 10])
 (.seq (.seq (.reg [oa 11 5,⟨some 12, none, .un .not (xt 11)⟩])
 (.cond (xt 12) (.seq (.reg [oa 13 0,oa 14 1,⟨some 15, none, .call 121 [(xt 14)]⟩,oc 16 13,of 17 10 16,os 1 17 15])
 (.ret))
 (.skip)))
 (.seq (.regd [oa 18 0,oc 19 18,of 20 9 19,ol 21 20,od 22 8 4,⟨some 23, none, .call 104 [(xt 21), (xt 22)]⟩,⟨some 24, none, .bin .neq (xt 23) (xi 0)⟩] [])
 (.cond (xt 24) (.seq (.reg [oa 25 0,oc 26 25,of 27 10 26,⟨none, none, .st 1 (xt 27) (xi 4)⟩])
 (.ret))
 (.skip)))))))
theorem fn72 : F 72 = .go 28 [] v72 := by rw [F, fnOf, Tryz.func72]; kernel_rfl

def v73 : VC :=
 .seq (.reg [oi 2 0])
 (.seq (.reg [oa 3 0,oc 4 3,of 5 9 4,ol 6 5,⟨some 7, none, .call 122 [(xt 6)]⟩,oa 2 7])
 (.ret))
theorem fn73 : F 73 = .go 8 [.t 2] v73 := by rw [F, fnOf, Tryz.func73]; kernel_rfl

def v74 : VC :=
 .seq (.reg [oa 5 0,oa 6 1,⟨some 7, none, .call 123 [(xt 5), (xt 6)]⟩,oa 4 7])
 (.seq (.reg [oa 8 4,oz 9 8,⟨some 10, none, .bin .gtr (xt 9) (xi 0)⟩])
 (.cond (xt 10) (.reg [oa 11 0,oa 12 0,oa 13 1,oa 14 4,oa 15 4,oz 16 15,⟨some 17, none, .bin .sub (xt 16) (xi 1)⟩,⟨some 18, none, .ia 8 (xt 14) (xt 17)⟩,od 19 8 18,oc 20 11,of 21 1 20,os 1 21 13,oc 22 12,of 23 2 22,os 8 23 19])
 (.skip)))
theorem fn74 : F 74 = .go 24 [] v74 := by rw [F, fnOf, Tryz.func74]; kernel_rfl

def v75 : VC :=
 .seq (.reg [⟨some 6, none, .mv (.c (.b false))⟩])
 (.seq (.reg [⟨some 7, none, .mv (.t 0)⟩,⟨some 8, none, .mv (.t 1)⟩,⟨some 9, none, .bin .geq (.t 7) (.t 8)⟩,⟨some 10, none, .mv (.t 9)⟩,⟨some 11, some (10, true), .mv (.t 0)⟩,⟨some 12, some (10, true), .mv (.t 2)⟩,⟨some 13, some (10, true), .bin .leq (.t 11) (.t 12)⟩,⟨some 14, none, .pick (.t 10) (.t 13) (.c (.b false))⟩,⟨some 6, none, .mv (.t 14)⟩])
 (.ret))
theorem fn75 : F 75 = .go 15 [.t 6] v75 := by rw [F, fnOf, Tryz.func75]; kernel_rfl

def v76 : VC :=
 .seq (.reg [⟨some 3, none, .box 2 (.t 1)⟩,⟨some 4, none, .mv (.c (.i .i64 0))⟩])
 (.seq (.seq (.reg [⟨some 6, none, .mv (.t 0)⟩,⟨some 7, none, .len 1 (.t 6)⟩,⟨some 8, none, .mv (.c (.i .i64 0))⟩])
 (.blk 0 (.loop (.seq (.reg [⟨some 9, none, .bin .lss (.t 8) (.t 7)⟩])
 (.seq (.cond (.t 9) (.skip)
 (.exit 0))
 (.seq (.blk 1 (.seq (.reg [⟨some 10, none, .mv (.t 8)⟩,⟨some 5, none, .mv (.t 10)⟩])
 (.seq (.regd [⟨some 11, none, .ldn 2 (.t 3)⟩,⟨some 12, none, .mv (.t 0)⟩,⟨some 13, none, .mv (.t 5)⟩,⟨some 14, none, .ia 2 (.t 12) (.t 13)⟩,⟨some 15, none, .ldn 2 (.t 14)⟩,⟨some 16, none, .eqa false [(0, .i), (1, .i)] (.t 11) (.t 15)⟩] [])
 (.cond (.t 16) (.seq (.reg [⟨some 17, none, .mv (.t 5)⟩,⟨some 4, none, .mv (.t 17)⟩])
 (.ret))
 (.skip)))))
 (.reg [⟨some 18, none, .bin .add (.t 8) (.c (.i .i64 1))⟩,⟨some 8, none, .mv (.t 18)⟩])))))))
 (.seq (.reg [⟨some 4, none, .mv (.c (.i .i64 (-1)))⟩])
 (.ret)))
theorem fn76 : F 76 = .go 19 [.t 4] v76 := by rw [F, fnOf, Tryz.func76]; kernel_rfl

def v78 : VC :=
 .seq (.reg [⟨some 2, none, .mv (.c (.s ⟨#[]⟩))⟩])
 (.seq (.reg [⟨some 3, none, .mv (.t 0)⟩,⟨some 4, none, .call 125 [(.t 3), (.c (.i .i64 10))]⟩,⟨some 2, none, .mv (.t 4)⟩])
 (.ret))
theorem fn78 : F 78 = .go 5 [.t 2] v78 := by rw [F, fnOf, Tryz.func78]; kernel_rfl

def v79 : VC :=
 .seq (.reg [⟨some 4, none, .mv (.t 0)⟩,⟨some 5, none, .call 126 [(.t 4)]⟩])
 (.seq (.seq (.reg [⟨some 6, none, .mv (.t 1)⟩,⟨some 7, none, .bin .lss (.t 6) (.c (.i .i64 0))⟩])
 (.cond (.t 7) (.reg [⟨some 8, none, .mif 9 (.c (.s ⟨#[115, 116, 114, 105, 110, 103, 115, 46, 66, 117, 105, 108, 100, 101, 114, 46, 71, 114, 111, 119, 58, 32, 110, 101, 103, 97, 116, 105, 118, 101, 32, 99, 111, 117, 110, 116]⟩))⟩,⟨none, none, .bad⟩])
 (.skip)))
 (.seq (.regd [⟨some 9, none, .mv (.t 0)⟩,⟨some 10, none, .nc (.t 9)⟩,⟨some 11, none, .fa 1 (.t 10)⟩,⟨some 12, none, .ld (.t 11)⟩,⟨some 13, none, .cap (.t 12)⟩,⟨some 14, none, .mv (.t 0)⟩,⟨some 15, none, .nc (.t 14)⟩,⟨some 16, none, .fa 1 (.t 15)⟩,⟨some 17, none, .ld (.t 16)⟩,⟨some 18, none, .len 1 (.t 17)⟩,⟨some 19, none, .bin .sub (.t 13) (.t 18)⟩,⟨some 20, none, .mv (.t 1)⟩,⟨some 21, none, .bin .lss (.t 19) (.t 20)⟩] [])
 (.cond (.t 21) (.reg [⟨some 22, none, .mv (.t 0)⟩,⟨some 23, none, .mv (.t 1)⟩,⟨some 24, none, .call 127 [(.t 22), (.t 23)]⟩])
 (.skip))))
theorem fn79 : F 79 = .go 25 [] v79 := by rw [F, fnOf, Tryz.func79]; kernel_rfl

def v80 : VC :=
 .seq (.reg [⟨some 4, none, .mv (.c (.i .i64 0))⟩,⟨some 5, none, .mv (.c .ni)⟩])
 (.seq (.reg [⟨some 6, none, .mv (.t 0)⟩,⟨some 7, none, .call 126 [(.t 6)]⟩])
 (.seq (.reg [⟨some 8, none, .mv (.t 0)⟩,⟨some 9, none, .mv (.t 0)⟩,⟨some 10, none, .nc (.t 9)⟩,⟨some 11, none, .fa 1 (.t 10)⟩,⟨some 12, none, .ld (.t 11)⟩,⟨some 13, none, .mv (.t 1)⟩,⟨some 14, none, .app ⟨1, (some 5)⟩ 1 (.t 12) (.t 13)⟩,⟨some 15, none, .nc (.t 8)⟩,⟨some 16, none, .fa 1 (.t 15)⟩,⟨none, none, .st 1 (.t 16) (.t 14)⟩])
 (.seq (.reg [⟨some 17, none, .mv (.t 1)⟩,⟨some 18, none, .len 0 (.t 17)⟩,⟨some 4, none, .mv (.t 18)⟩,⟨some 5, none, .mv (.c .ni)⟩])
 (.ret))))
theorem fn80 : F 80 = .go 19 [.t 4, .t 5] v80 := by rw [F, fnOf, Tryz.func80]; kernel_rfl

def v81 : VC :=
 .seq (.reg [⟨some 2, none, .mv (.c (.s ⟨#[]⟩))⟩])
 (.seq (.regd [⟨some 3, none, .mv (.t 0)⟩,⟨some 4, none, .nc (.t 3)⟩,⟨some 5, none, .fa 1 (.t 4)⟩,⟨some 6, none, .ld (.t 5)⟩,⟨some 7, none, .usd (.t 6)⟩,⟨some 8, none, .mv (.t 0)⟩,⟨some 9, none, .nc (.t 8)⟩,⟨some 10, none, .fa 1 (.t 9)⟩,⟨some 11, none, .ld (.t 10)⟩,⟨some 12, none, .len 1 (.t 11)⟩,⟨some 13, none, .ustr 5 (.t 7) (.t 12)⟩,⟨some 2, none, .mv (.t 13)⟩] [])
 (.ret))
theorem fn81 : F 81 = .go 14 [.t 2] v81 := by rw [F, fnOf, Tryz.func81]; kernel_rfl

def v82 : VC :=
 .seq (.reg [⟨some 1, none, .box 1 (xt 0)⟩,⟨some 2, none, .mv (.c .nf)⟩])
 (.seq (.reg [⟨some 3, none, .fnc 128 [] [(xt 1)]⟩,oa 2 3])
 (.ret))
theorem fn82 : F 82 = .go 4 [.t 2] v82 := by rw [F, fnOf, Tryz.func82]; kernel_rfl

def v83 : VC :=
 .seq (.reg [⟨some 4, none, .mv (.c (.s ⟨#[]⟩))⟩])
 (.seq (.reg [oa 5 0,oa 6 1,⟨some 7, none, .call 130 [(xt 5), (xt 6)]⟩,oa 4 7])
 (.ret))
theorem fn83 : F 83 = .go 8 [.t 4] v83 := by rw [F, fnOf, Tryz.func83]; kernel_rfl

def v84 : VC :=
 .seq (.reg [⟨some 2, none, .mv (.c (.s ⟨#[]⟩))⟩])
 (.seq (.reg [oa 3 0,⟨some 4, none, .call 37 [(xt 3)]⟩,⟨some 5, none, .bin .add (.c (.s ⟨#[101, 114, 114, 111, 114, 32]⟩)) (xt 4)⟩,oa 2 5])
 (.ret))
theorem fn84 : F 84 = .go 6 [.t 2] v84 := by rw [F, fnOf, Tryz.func84]; kernel_rfl

def v85 : VC :=
 .seq (.reg [⟨some 4, none, .mv (.c (.sl none 0 0 true))⟩])
 (.seq (.reg [oa 9 1,⟨some 10, none, .call 131 [(xt 9)]⟩,oa 8 10,oe 11 8 0,oe 12 8 1,⟨some 5, none, .alloc 57 [z0, z0, z0, z0]⟩,os 4 5 11,oa 6 12])
 (.seq (.reg [⟨some 7, none, .mv (.c (.sl none 0 0 true))⟩])
 (.seq (.seq (.reg [oa 13 6,⟨some 14, none, .bin .eql (xt 13) (xi 0)⟩])
 (.cond (xt 14) (.reg [oa 16 0,od 17 4 5,⟨some 18, none, .call 20 [(xt 16), (xt 17)]⟩,oa 15 18,oe 19 15 0,oe 20 15 1,oa 7 19,oa 6 20])
 (.skip)))
 (.seq (.seq (.reg [oa 21 6,⟨some 22, none, .bin .neq (xt 21) (xi 0)⟩])
 (.cond (xt 22) (.seq (.reg [oa 23 6,⟨some 24, none, .call 84 [(xt 23)]⟩,⟨some 25, none, .bsl 1 1 [(.s ⟨#[]⟩)] [(0, 1, (xt 24))]⟩,oa 4 25])
 (.ret))
 (.skip)))
 (.seq (.reg [oa 26 7,oa 4 26])
 (.ret))))))
theorem fn85 : F 85 = .go 27 [.t 4] v85 := by rw [F, fnOf, Tryz.func85]; kernel_rfl

def v86 : VC :=
 .seq (.reg [⟨some 2, none, .mv (.c (.i .i64 0))⟩,⟨some 3, none, .mv (.c (.i .i64 0))⟩])
 (.seq (.seq (.reg [⟨some 4, none, .mv (.t 0)⟩])
 (.blk 0 (.seq (.seq (.reg [⟨some 6, none, .bin .eql (.t 4) (.c (.i .i64 1))⟩,⟨some 5, none, .mv (.t 6)⟩])
 (.cond (.t 5) (.skip)
 (.reg [⟨some 7, none, .bin .eql (.t 4) (.c (.i .i64 2))⟩,⟨some 5, none, .mv (.t 7)⟩])))
 (.cond (.t 5) (.seq (.reg [⟨some 2, none, .mv (.c (.i .i64 0))⟩,⟨some 3, none, .mv (.c (.i .i64 1))⟩])
 (.ret))
 (.seq (.seq (.reg [⟨some 9, none, .bin .eql (.t 4) (.c (.i .i64 3))⟩,⟨some 8, none, .mv (.t 9)⟩])
 (.cond (.t 8) (.skip)
 (.reg [⟨some 10, none, .bin .eql (.t 4) (.c (.i .i64 8))⟩,⟨some 8, none, .mv (.t 10)⟩])))
 (.cond (.t 8) (.seq (.reg [⟨some 2, none, .mv (.c (.i .i64 1))⟩,⟨some 3, none, .mv (.c (.i .i64 1))⟩])
 (.ret))
 (.seq (.reg [⟨some 12, none, .bin .eql (.t 4) (.c (.i .i64 7))⟩,⟨some 11, none, .mv (.t 12)⟩])
 (.cond (.t 11) (.seq (.reg [⟨some 2, none, .mv (.c (.i .i64 2))⟩,⟨some 3, none, .mv (.c (.i .i64 2))⟩])
 (.ret))
 (.skip)))))))))
 (.seq (.reg [⟨some 2, none, .mv (.c (.i .i64 0))⟩,⟨some 3, none, .mv (.c (.i .i64 0))⟩])
 (.ret)))
theorem fn86 : F 86 = .go 13 [.t 2, .t 3] v86 := by rw [F, fnOf, Tryz.func86]; kernel_rfl

def v87 : VC :=
 .seq (.reg [⟨some 2, none, .mv (.c (.s ⟨#[]⟩))⟩])
 (.seq (.seq (.reg [⟨some 3, none, .mv (.t 0)⟩,⟨some 4, none, .bin .lss (.t 3) (.c (.i .i64 1))⟩,⟨some 5, none, .mv (.t 4)⟩,⟨some 6, some (5, false), .mv (.t 0)⟩,⟨some 7, some (5, false), .bin .gtr (.t 6) (.c (.i .i64 14))⟩,⟨some 8, none, .pick (.t 5) (.c (.b true)) (.t 7)⟩])
 (.cond (.t 8) (.seq (.reg [⟨some 2, none, .mv (.c (.s ⟨#[]⟩))⟩])
 (.ret))
 (.skip)))
 (.seq (.reg [⟨some 9, none, .call 132 []⟩,⟨some 10, none, .mv (.t 0)⟩,⟨some 11, none, .ia 1 (.t 9) (.t 10)⟩,⟨some 12, none, .ld (.t 11)⟩,⟨some 2, none, .mv (.t 12)⟩])
 (.ret)))
theorem fn87 : F 87 = .go 13 [.t 2] v87 := by rw [F, fnOf, Tryz.func87]; kernel_rfl

def v88 : VC :=
 .seq (.reg [⟨some 4, none, .mv (.c (.i .i64 0))⟩])
 (.seq (.seq (.reg [⟨some 5, none, .mv (.t 1)⟩,⟨some 6, none, .bin .lss (.t 5) (.c (.i .i64 0))⟩,⟨some 7, none, .mv (.t 6)⟩,⟨some 8, some (7, false), .mv (.t 1)⟩,⟨some 9, some (7, false), .mv (.t 0)⟩,⟨some 10, some (7, false), .nc (.t 9)⟩,⟨some 11, some (7, false), .fa 10 (.t 10)⟩,⟨some 12, some (7, false), .ld (.t 11)⟩,⟨some 13, some (7, false), .len 1 (.t 12)⟩,⟨some 14, some (7, false), .bin .geq (.t 8) (.t 13)⟩,⟨some 15, none, .pick (.t 7) (.c (.b true)) (.t 14)⟩])
 (.cond (.t 15) (.seq (.reg [⟨some 4, none, .mv (.c (.i .i64 12))⟩])
 (.ret))
 (.skip)))
 (.seq (.reg [⟨some 16, none, .mv (.t 0)⟩,⟨some 17, none, .mv (.t 0)⟩,⟨some 18, none, .nc (.t 17)⟩,⟨some 19, none, .fa 10 (.t 18)⟩,⟨some 20, none, .ld (.t 19)⟩,⟨some 21, none, .mv (.t 1)⟩,⟨some 22, none, .mv (.t 1)⟩,⟨some 23, none, .bin .add (.t 22) (.c (.i .i64 1))⟩,⟨some 24, none, .call 133 [(.t 20), (.t 21), (.t 23)]⟩,⟨some 25, none, .nc (.t 16)⟩,⟨some 26, none, .fa 10 (.t 25)⟩,⟨none, none, .st 1 (.t 26) (.t 24)⟩])
 (.seq (.reg [⟨some 4, none, .mv (.c (.i .i64 0))⟩])
 (.ret))))
theorem fn88 : F 88 = .go 27 [.t 4] v88 := by rw [F, fnOf, Tryz.func88]; kernel_rfl

def v89 : VC :=
 .seq (.reg [⟨some 2, none, .mv (.c (.p none))⟩])
 (.seq (.reg [oa 3 0,oc 4 3,of 5 0 4,ol 6 5,oa 2 6])
 (.ret))
theorem fn89 : F 89 = .go 7 [.t 2] v89 := by rw [F, fnOf, Tryz.func89]; kernel_rfl

def v92 : VC :=
 .seq (.reg [⟨some 5, none, .box 3 (xt 1)⟩,⟨some 7, none, .box 8 (xt 3)⟩,⟨some 8, none, .mv (.c (.s ⟨#[]⟩))⟩])
 (.seq (.seq (.reg [of 13 1 7,ol 14 13,⟨some 15, none, .bin .lss (xt 14) (xi 0)⟩,oa 16 15,⟨some 17, yn 16, .fa 1 (xt 7)⟩,⟨some 18, yn 16, .ld (xt 17)⟩,⟨some 19, yn 16, .fa 0 (xt 5)⟩,⟨some 20, yn 16, .ld (xt 19)⟩,⟨some 21, yn 16, .len 1 (xt 20)⟩,⟨some 22, yn 16, .bin .geq (xt 18) (xt 21)⟩,⟨some 23, none, .pick (xt 16) (.c (.b true)) (xt 22)⟩])
 (.cond (xt 23) (.seq (.reg [⟨some 8, none, .mv (.c (.s ⟨#[]⟩))⟩])
 (.ret))
 (.skip)))
 (.seq (.reg [of 24 0 5,ol 25 24,of 26 1 7,ol 27 26,⟨some 28, none, .ia 10 (xt 25) (xt 27)⟩,od 29 10 28,⟨some 9, none, .alloc 209 [z0, z0, z0, z0, z0, z0, z0, (.s ⟨#[]⟩), (.sl none 0 0 true), (.sl none 0 0 true)]⟩,os 10 9 29])
 (.seq (.regd [of 30 1 9,ol 31 30,⟨some 32, none, .mx [(xt 31), (xi 0)]⟩,oa 33 0,oz 34 33,⟨some 35, none, .mn [(xt 32), (xt 34)]⟩,of 36 2 9,ol 37 36,⟨some 38, none, .mx [(xt 37), (xi 0)]⟩,oa 39 0,oz 40 39,⟨some 41, none, .mn [(xt 38), (xt 40)]⟩,oa 10 35,oa 11 41] [])
 (.seq (.reg [oa 42 0,oa 43 10,oa 44 10,oa 45 11,⟨some 46, none, .mx [(xt 44), (xt 45)]⟩,⟨some 47, none, .slc 1 (xt 42) (some (xt 43)) (some (xt 46)) none⟩,⟨some 48, none, .call 139 [(xt 47)]⟩,oa 12 48])
 (.seq (.regd [oa 49 2,⟨some 50, none, .call 37 [(xt 49)]⟩,⟨some 51, none, .bin .add (.c (.s ⟨#[35]⟩)) (xt 50)⟩,⟨some 52, none, .bin .add (xt 51) (.c (.s ⟨#[32]⟩))⟩,od 53 10 9,⟨some 54, none, .call 140 [(xt 53)]⟩,ob 55 .add 52 54,⟨some 56, none, .bin .add (xt 55) (.c (.s ⟨#[32]⟩))⟩,oa 57 12,ob 58 .add 56 57,⟨some 59, none, .bin .add (xt 58) (.c (.s ⟨#[32]⟩))⟩,of 60 0 7,ol 61 60,⟨some 62, none, .call 38 [(xt 61)]⟩,ob 63 .add 59 62,⟨some 64, none, .bin .add (xt 63) (.c (.s ⟨#[58, 32]⟩))⟩,od 65 10 9,od 66 8 7,⟨some 67, none, .call 141 [(xt 65), (xt 66)]⟩,ob 68 .add 64 67,oa 8 68] [(4, 1), (12, 1), (12, 5), (16, 1), (16, 5), (16, 13), (17, 1), (17, 5), (17, 13)])
 (.ret))))))
theorem fn92 : F 92 = .go 69 [.t 8] v92 := by rw [F, fnOf, Tryz.func92]; kernel_rfl

def v93 : VC :=
 .seq (.reg [oi 4 0])
 (.seq (.seq (.reg [oa 7 0,oi 8 0])
 (.blk 0 (.loop (.seq (.reg [ob 9 .lss 8 7])
 (.seq (.cond (xt 9) (.skip)
 (.exit 0))
 (.seq (.blk 1 (.seq (.reg [oa 10 8,oa 5 10])
 (.seq (.reg [oa 11 1,⟨some 12, none, .cv (xt 11) []⟩,oa 6 12])
 (.seq (.reg [oa 13 6,⟨some 14, none, .bin .neq (xt 13) (xi 0)⟩])
 (.cond (xt 14) (.seq (.seq (.reg [oa 15 5,⟨some 16, none, .bin .eql (xt 15) (xi 0)⟩])
 (.cond (xt 16) (.seq (.reg [oa 17 6,oa 4 17])
 (.ret))
 (.skip)))
 (.exit 0))
 (.skip))))))
 (.reg [⟨some 18, none, .bin .add (xt 8) (xi 1)⟩,oa 8 18])))))))
 (.seq (.reg [oi 4 0])
 (.ret)))
theorem fn93 : F 93 = .go 19 [.t 4] v93 := by rw [F, fnOf, Tryz.func93]; kernel_rfl

def v94 : VC :=
 .seq (.reg [oi 2 0])
 (.seq (.seq (.reg [oa 3 0,⟨some 4, none, .call 107 [(xt 3)]⟩])
 (.cond (xt 4) (.seq (.reg [oi 2 70])
 (.ret))
 (.skip)))
 (.seq (.regd [oa 5 0,oa 6 0,oa 7 0,oc 8 7,of 9 1 8,ol 10 9,oa 11 0,oc 12 11,of 13 2 12,od 14 8 13,⟨some 15, none, .call 108 [(xt 6), (xt 10), (xt 14)]⟩,oc 16 5,of 17 2 16,os 8 17 15] [])
 (.seq (.reg [oa 18 0,oc 19 18,of 20 1 19,ol 21 20,⟨some 22, none, .bin .add (xt 21) (xi 1)⟩,oc 23 18,of 24 1 23,os 1 24 22])
 (.seq (.reg [oi 2 0])
 (.ret)))))
theorem fn94 : F 94 = .go 25 [.t 2] v94 := by rw [F, fnOf, Tryz.func94]; kernel_rfl

def v95 : VC :=
 .seq (.reg [oi 2 0])
 (.seq (.seq (.reg [oa 3 0,oc 4 3,of 5 1 4,ol 6 5,⟨some 7, none, .bin .eql (xt 6) (xi 0)⟩])
 (.cond (xt 7) (.seq (.reg [oi 2 70])
 (.ret))
 (.skip)))
 (.seq (.reg [oa 8 0,oa 9 0,oc 10 9,of 11 1 10,ol 12 11,⟨some 13, none, .bin .sub (xt 12) (xi 1)⟩,⟨some 14, none, .call 74 [(xt 8), (xt 13)]⟩])
 (.seq (.reg [oi 2 0])
 (.ret))))
theorem fn95 : F 95 = .go 15 [.t 2] v95 := by rw [F, fnOf, Tryz.func95]; kernel_rfl

def v99 : VC :=
 .seq (.reg [⟨some 2, none, .mv (.c (.sl none 0 0 true))⟩])
 (.seq (.seq (.reg [⟨some 3, none, .mv (.t 0)⟩,⟨some 4, none, .eqn .sl false (.t 3) (.c (.sl none 0 0 true))⟩])
 (.cond (.t 4) (.seq (.reg [⟨some 2, none, .mv (.c (.sl none 0 0 true))⟩])
 (.ret))
 (.skip)))
 (.seq (.reg [⟨some 5, none, .bsl 1 0 [] []⟩,⟨some 6, none, .mv (.t 0)⟩,⟨some 7, none, .app ⟨1, (some 3)⟩ 8 (.t 5) (.t 6)⟩,⟨some 2, none, .mv (.t 7)⟩])
 (.ret)))
theorem fn99 : F 99 = .go 8 [.t 2] v99 := by rw [F, fnOf, Tryz.func99]; kernel_rfl

def v101 : VC :=
 .seq (.reg [⟨some 4, none, .mv (.c (.i .u64 0))⟩,oi 5 0,oi 6 0])
 (.seq (.seq (.reg [oa 11 1,⟨some 12, none, .bin .lss (xt 11) (xi 0)⟩,oa 13 12,on 14 13 1,on 15 13 0,⟨some 16, yn 13, .len 1 (xt 15)⟩,⟨some 17, yn 13, .bin .gtr (xt 14) (xt 16)⟩,⟨some 18, none, .pick (xt 13) (.c (.b true)) (xt 17)⟩])
 (.cond (xt 18) (.seq (.reg [⟨some 4, none, .mv (.c (.i .u64 0))⟩,oi 5 0,oi 6 10])
 (.ret))
 (.skip)))
 (.seq (.reg [⟨some 7, none, .mv (.c (.i .u64 0))⟩])
 (.seq (.seq (.reg [oa 19 0,oz 20 19,oa 21 1,ob 22 .sub 20 21,⟨some 23, none, .mn [(xt 22), (xi 10)]⟩,oi 24 0])
 (.blk 0 (.loop (.seq (.reg [ob 25 .lss 24 23])
 (.seq (.cond (xt 25) (.skip)
 (.exit 0))
 (.seq (.blk 1 (.seq (.reg [oa 26 24,oa 8 26])
 (.seq (.reg [oa 27 0,oa 28 1,oa 29 8,ob 30 .add 28 29,⟨some 31, none, .ia 1 (xt 27) (xt 30)⟩,ol 32 31,⟨some 33, none, .cvi .u64 (xt 32)⟩,oa 9 33])
 (.seq (.reg [oa 34 9,⟨some 35, none, .bin .rem (xt 34) (.c (.i .u64 128))⟩,oa 10 35])
 (.seq (.seq (.reg [oa 36 8,⟨some 37, none, .bin .mul (xi 7) (xt 36)⟩,oa 38 10,⟨some 39, none, .call 144 [(xt 38)]⟩,ob 40 .add 37 39,⟨some 41, none, .bin .gtr (xt 40) (xi 64)⟩])
 (.cond (xt 41) (.seq (.reg [⟨some 4, none, .mv (.c (.i .u64 0))⟩,oi 5 0,oi 6 11])
 (.ret))
 (.skip)))
 (.seq (.reg [oa 42 7,oa 43 10,oa 44 8,⟨some 45, none, .bin .mul (xi 7) (xt 44)⟩,ob 46 .shl 43 45,ob 47 .or 42 46,oa 7 47])
 (.seq (.reg [oa 48 9,⟨some 49, none, .bin .lss (xt 48) (.c (.i .u64 128))⟩])
 (.cond (xt 49) (.seq (.seq (.reg [oa 50 9,⟨some 51, none, .bin .eql (xt 50) (.c (.i .u64 0))⟩,oa 52 51,ot 53 52 8,⟨some 54, yt 52, .bin .gtr (xt 53) (xi 0)⟩,⟨some 55, none, .pick (xt 52) (xt 54) (.c (.b false))⟩])
 (.cond (xt 55) (.seq (.reg [⟨some 4, none, .mv (.c (.i .u64 0))⟩,oi 5 0,oi 6 11])
 (.ret))
 (.skip)))
 (.seq (.reg [oa 56 7,oa 57 8,⟨some 58, none, .bin .add (xt 57) (xi 1)⟩,oa 4 56,oa 5 58,oi 6 0])
 (.ret)))
 (.skip)))))))))
 (.reg [⟨some 59, none, .bin .add (xt 24) (xi 1)⟩,oa 24 59])))))))
 (.seq (.seq (.reg [oa 60 0,oz 61 60,oa 62 1,ob 63 .sub 61 62,⟨some 64, none, .bin .lss (xt 63) (xi 10)⟩])
 (.cond (xt 64) (.seq (.reg [⟨some 4, none, .mv (.c (.i .u64 0))⟩,oi 5 0,oi 6 14])
 (.ret))
 (.skip)))
 (.seq (.reg [⟨some 4, none, .mv (.c (.i .u64 0))⟩,oi 5 0,oi 6 11])
 (.ret))))))
theorem fn101 : F 101 = .go 65 [.t 4, .t 5, .t 6] v101 := by rw [F, fnOf, Tryz.func101]; kernel_rfl

def v102 : VC :=
 .seq (.reg [⟨some 2, none, .alloc 60 [z0, z0, z0, z0, z0, z0, z0, (.sl none 0 0 true)]⟩])
 (.seq (.reg [⟨some 4, none, .build [z0, z0, z0, z0, z0, z0, z0, (.sl none 0 0 true)] [(6, 1, (xi (-1)))]⟩,⟨some 3, none, .alloc 60 [z0, z0, z0, z0, z0, z0, z0, (.sl none 0 0 true)]⟩,os 8 3 4])
 (.seq (.seq (.reg [oa 5 0,⟨some 6, none, .mx [(xt 5), (xi 0)]⟩,⟨some 7, none, .mn [(xt 6), (xi 99)]⟩,⟨some 8, none, .bin .add (xt 7) (xi 1)⟩,⟨some 9, none, .bin .mul (xi 2) (xt 8)⟩,oi 10 0])
 (.blk 0 (.loop (.seq (.reg [ob 11 .lss 10 9])
 (.seq (.cond (xt 11) (.skip)
 (.exit 0))
 (.seq (.blk 1 (.reg [of 12 7 3,ol 13 12,⟨some 14, none, .bsl 1 1 [(.i .i64 0)] [(0, 1, (xi (-1)))]⟩,⟨some 15, none, .app ⟨1, (some 3)⟩ 8 (xt 13) (xt 14)⟩,of 16 7 3,os 1 16 15]))
 (.reg [⟨some 17, none, .bin .add (xt 10) (xi 1)⟩,oa 10 17])))))))
 (.seq (.reg [od 18 8 3,os 8 2 18])
 (.ret))))
theorem fn102 : F 102 = .go 19 [.c 2 (some 8)] v102 := by rw [F, fnOf, Tryz.func102]; kernel_rfl

def v103 : VC :=
 .seq (.reg [⟨some 3, none, .box 8 (xt 0)⟩,⟨some 6, none, .alloc 60 [z0, z0, z0, z0, z0, z0, z0, (.sl none 0 0 true)]⟩,oi 7 0,oi 8 0])
 (.seq (.seq (.reg [od 14 8 3,⟨some 15, none, .call 145 [(xt 14)]⟩,⟨some 16, none, .un .not (xt 15)⟩])
 (.cond (xt 16) (.seq (.reg [⟨some 17, none, .build [z0, z0, z0, z0, z0, z0, z0, (.sl none 0 0 true)] []⟩,os 8 6 17,oi 7 0,oi 8 11])
 (.ret))
 (.skip)))
 (.seq (.seq (.reg [oa 18 2,⟨some 19, none, .bin .lss (xt 18) (xi 0)⟩,oa 20 19,on 21 20 2,on 22 20 1,⟨some 23, yn 20, .len 1 (xt 22)⟩,⟨some 24, yn 20, .bin .gtr (xt 21) (xt 23)⟩,⟨some 25, none, .pick (xt 20) (.c (.b true)) (xt 24)⟩])
 (.cond (xt 25) (.seq (.reg [⟨some 26, none, .build [z0, z0, z0, z0, z0, z0, z0, (.sl none 0 0 true)] []⟩,os 8 6 26,oi 7 0,oi 8 10])
 (.ret))
 (.skip)))
 (.seq (.reg [oa 27 1,oa 28 2,⟨some 29, none, .build [(.sl none 0 0 true), z0, z0] [(0, 1, (xt 27)), (1, 1, (xt 28))]⟩,⟨some 30, none, .box 3 (xt 29)⟩,oa 9 30])
 (.seq (.reg [od 31 8 3,⟨some 32, none, .call 51 [(xt 31)]⟩,⟨some 10, none, .alloc 60 [z0, z0, z0, z0, z0, z0, z0, (.sl none 0 0 true)]⟩,os 8 10 32])
 (.seq (.reg [oa 33 9,⟨some 34, none, .call 146 [(xt 33), (xi 14)]⟩,of 35 0 10,os 1 35 34])
 (.seq (.reg [oa 36 9,⟨some 37, none, .call 146 [(xt 36), (xi 127)]⟩,oa 11 37])
 (.seq (.seq (.reg [of 38 1 10,of 39 2 10,of 40 3 10,of 41 4 10,of 42 5 10,of 43 6 10,⟨some 44, none, .build [(.p none), (.p none), (.p none), (.p none), (.p none), (.p none)] [(0, 1, (xt 38)), (1, 1, (xt 39)), (2, 1, (xt 40)), (3, 1, (xt 41)), (4, 1, (xt 42)), (5, 1, (xt 43))]⟩,oi 45 0])
 (.blk 0 (.loop (.seq (.reg [⟨some 46, none, .bin .lss (xt 45) (xi 6)⟩])
 (.seq (.cond (xt 46) (.skip)
 (.exit 0))
 (.seq (.blk 1 (.seq (.reg [oa 47 45,⟨some 48, none, .ixA 6 1 none (xt 44) (xt 45)⟩,oa 12 47,oa 13 48])
 (.seq (.reg [oa 49 11,oa 50 12,ob 51 .shr 49 50,⟨some 52, none, .bin .and (xt 51) (xi 1)⟩,⟨some 53, none, .bin .eql (xt 52) (xi 1)⟩])
 (.cond (xt 53) (.reg [oa 54 13,oa 55 9,oa 56 13,oc 57 56,ol 58 57,⟨some 59, none, .call 147 [(xt 55), (xt 58)]⟩,oc 60 54,os 1 60 59])
 (.skip)))))
 (.reg [⟨some 61, none, .bin .add (xt 45) (xi 1)⟩,oa 45 61])))))))
 (.seq (.seq (.reg [oa 62 11,⟨some 63, none, .bin .and (xt 62) (xi 64)⟩,⟨some 64, none, .bin .neq (xt 63) (xi 0)⟩])
 (.cond (xt 64) (.reg [oa 65 9,of 66 7 10,ol 67 66,⟨some 68, none, .call 148 [(xt 65), (xt 67)]⟩])
 (.skip)))
 (.seq (.seq (.regd [oa 69 9,oc 70 69,of 71 2 70,ol 72 71,⟨some 73, none, .bin .eql (xt 72) (xi 0)⟩,oa 74 73,⟨some 75, yt 74, .ldn 8 (xt 10)⟩,⟨some 76, yt 74, .ldn 8 (xt 3)⟩,⟨some 77, yt 74, .call 150 [(xt 76)]⟩,⟨some 78, yt 74, .call 149 [(xt 75), (xt 77)]⟩,⟨some 79, yt 74, .un .not (xt 78)⟩,⟨some 80, none, .pick (xt 74) (xt 79) (.c (.b false))⟩] [(6, 8)])
 (.cond (xt 80) (.reg [oa 81 9,oc 82 81,of 83 2 82,⟨none, none, .st 1 (xt 83) (xi 11)⟩])
 (.skip)))
 (.seq (.seq (.reg [oa 84 9,oc 85 84,of 86 2 85,ol 87 86,⟨some 88, none, .bin .neq (xt 87) (xi 0)⟩])
 (.cond (xt 88) (.seq (.regd [⟨some 89, none, .build [z0, z0, z0, z0, z0, z0, z0, (.sl none 0 0 true)] []⟩,oa 90 9,oc 91 90,of 92 2 91,ol 93 92,os 8 6 89,oi 7 0,oa 8 93] [(4, 5)])
 (.ret))
 (.skip)))
 (.seq (.regd [od 94 8 10,oa 95 9,oc 96 95,of 97 1 96,ol 98 97,oa 99 2,ob 100 .sub 98 99,os 8 6 94,oa 7 100,oi 8 0] [(4, 7)])
 (.ret))))))))))))
theorem fn103 : F 103 = .go 101 [.c 6 (some 8), .t 7, .t 8] v103 := by rw [F, fnOf, Tryz.func103]; kernel_rfl

def v104 : VC :=
 .seq (.reg [⟨some 3, none, .box 8 (xt 1)⟩,oi 4 0])
 (.seq (.reg [oa 8 0,oc 9 8,of 10 5 9,od 11 8 10,⟨some 5, none, .alloc 60 [z0, z0, z0, z0, z0, z0, z0, (.sl none 0 0 true)]⟩,os 8 5 11])
 (.seq (.seq (.regd [oa 12 0,⟨some 13, none, .call 25 [(xt 12)]⟩,oa 14 0,oc 15 14,of 16 1 15,ol 17 16,ob 18 .rem 13 17,⟨some 19, none, .bin .eql (xt 18) (xi 0)⟩] [(5, 1)])
 (.cond (xt 19) (.reg [oa 20 0,oc 21 20,of 22 0 21,ol 23 22,⟨some 24, none, .call 102 [(xt 23)]⟩,os 8 5 24])
 (.skip)))
 (.seq (.reg [od 26 8 5,od 27 8 3,⟨some 28, none, .call 151 [(xt 26), (xt 27)]⟩,oa 25 28,oe 29 25 0,oe 30 25 1,oa 6 29,oa 7 30])
 (.seq (.blk 0 (.seq (.regd [od 32 8 3,oa 33 0,oc 34 33,of 35 0 34,ol 36 35,⟨some 37, none, .call 149 [(xt 32), (xt 36)]⟩,⟨some 38, none, .un .not (xt 37)⟩,oa 39 38,on 40 39 7,⟨some 41, yn 39, .bin .neq (xt 40) (xi 0)⟩,⟨some 42, none, .pick (xt 39) (.c (.b true)) (xt 41)⟩,oa 31 42] [])
 (.cond (xt 31) (.seq (.reg [oi 4 11])
 (.ret))
 (.seq (.regd [oa 44 0,oc 45 44,of 46 3 45,ol 47 46,oz 48 47,oa 49 6,oz 50 49,ob 51 .add 48 50,oa 52 0,oc 53 52,of 54 2 53,ol 55 54,ob 56 .gtr 51 55,oa 43 56] [])
 (.cond (xt 43) (.seq (.reg [oi 4 13])
 (.ret))
 (.skip))))))
 (.seq (.regd [oa 57 0,oa 58 0,oc 59 58,of 60 4 59,ol 61 60,oa 62 0,oc 63 62,of 64 3 63,ol 65 64,oz 66 65,⟨some 67, none, .bsl 1 1 [(.i .i64 0)] [(0, 1, (xt 66))]⟩,⟨some 68, none, .app ⟨1, (some 3)⟩ 8 (xt 61) (xt 67)⟩,oc 69 57,of 70 4 69,os 1 70 68] [(4, 10)])
 (.seq (.reg [oa 71 0,oa 72 0,oc 73 72,of 74 3 73,ol 75 74,oa 76 6,⟨some 77, none, .app ⟨1, (some 5)⟩ 1 (xt 75) (xt 76)⟩,oc 78 71,of 79 3 78,os 1 79 77])
 (.seq (.reg [oa 80 0,od 81 8 3,⟨some 82, none, .call 51 [(xt 81)]⟩,oc 83 80,of 84 5 83,os 8 84 82])
 (.seq (.reg [oi 4 0])
 (.ret)))))))))
theorem fn104 : F 104 = .go 85 [.t 4] v104 := by rw [F, fnOf, Tryz.func104]; kernel_rfl

def v105 : VC :=
 .seq (.reg [⟨some 2, none, .mv (.c (.sl none 0 0 true))⟩])
 (.seq (.reg [⟨some 3, none, .mv (.c (.sl none 0 0 true))⟩])
 (.seq (.blk 0 (.loop (.seq (.seq (.reg [oa 4 0,⟨some 5, none, .bin .geq (xt 4) (.c (.i .u64 128))⟩])
 (.cond (xt 5) (.skip)
 (.exit 0)))
 (.seq (.blk 1 (.reg [oa 8 3,oa 9 0,⟨some 10, none, .bin .rem (xt 9) (.c (.i .u64 128))⟩,⟨some 11, none, .bin .or (xt 10) (.c (.i .u64 128))⟩,⟨some 12, none, .cvi .u8 (xt 11)⟩,⟨some 13, none, .bsl 1 1 [(.i .u8 0)] [(0, 1, (xt 12))]⟩,⟨some 14, none, .app ⟨1, (some 5)⟩ 1 (xt 8) (xt 13)⟩,oa 3 14]))
 (.reg [oa 6 0,⟨some 7, none, .bin .shr (xt 6) (.c (.i .u64 7))⟩,oa 0 7])))))
 (.seq (.reg [oa 15 3,oa 16 0,⟨some 17, none, .cvi .u8 (xt 16)⟩,⟨some 18, none, .bsl 1 1 [(.i .u8 0)] [(0, 1, (xt 17))]⟩,⟨some 19, none, .app ⟨1, (some 5)⟩ 1 (xt 15) (xt 18)⟩,oa 2 19])
 (.ret))))
theorem fn105 : F 105 = .go 20 [.t 2] v105 := by rw [F, fnOf, Tryz.func105]; kernel_rfl

def v107 : VC :=
 .seq (.reg [⟨some 2, none, .mv (.c (.b false))⟩])
 (.seq (.regd [oa 3 0,oc 4 3,of 5 1 4,ol 6 5,oa 7 0,⟨some 8, none, .call 50 [(xt 7)]⟩,⟨some 9, none, .bin .sub (xt 8) (xi 1)⟩,ob 10 .geq 6 9,oa 2 10] [(3, 5)])
 (.ret))
theorem fn107 : F 107 = .go 11 [.t 2] v107 := by rw [F, fnOf, Tryz.func107]; kernel_rfl

def v108 : VC :=
 .seq (.reg [⟨some 5, none, .box 8 (xt 2)⟩,⟨some 6, none, .alloc 60 [z0, z0, z0, z0, z0, z0, z0, (.sl none 0 0 true)]⟩])
 (.seq (.regd [⟨some 7, none, .alloc 60 [z0, z0, z0, z0, z0, z0, z0, (.sl none 0 0 true)]⟩,oa 10 0,oc 11 10,of 12 0 11,ol 13 12,oc 14 13,of 15 9 14,ol 16 15,od 17 8 5,oa 18 1,⟨some 19, none, .bin .add (xt 18) (xi 1)⟩,⟨some 20, none, .call 62 [(xt 16), (xt 17), (xt 19)]⟩,oa 9 20,oe 21 9 0,oe 22 9 1,os 8 7 21,oa 8 22] [])
 (.seq (.reg [oa 23 0,oc 24 23,of 25 11 24,ol 26 25,⟨some 27, none, .bin .add (xt 26) (xi 1)⟩,oc 28 23,of 29 11 28,os 1 29 27])
 (.seq (.reg [od 30 8 7,os 8 6 30])
 (.ret))))
theorem fn108 : F 108 = .go 31 [.c 6 (some 8)] v108 := by rw [F, fnOf, Tryz.func108]; kernel_rfl

def v109 : VC :=
 .seq (.reg [⟨some 2, none, .alloc 82 [(.sl none 0 0 true), (.i .i64 0), (.sl none 0 0 true)]⟩,oi 3 0,oi 4 0])
 (.seq (.seq (.reg [oa 10 0,oz 11 10,⟨some 12, none, .bin .gtr (xt 11) (xi 4096)⟩])
 (.cond (xt 12) (.seq (.reg [⟨some 13, none, .build [(.sl none 0 0 true), (.i .i64 0), (.sl none 0 0 true)] []⟩,os 3 2 13,oi 3 15,oi 4 0])
 (.ret))
 (.skip)))
 (.seq (.reg [oa 14 0,⟨some 15, none, .bsl 1 1 [(.s ⟨#[]⟩)] [(0, 1, (.c (.s ⟨#[]⟩)))]⟩,⟨some 16, none, .build [(.sl none 0 0 true), (.i .i64 0), (.b false), (.b false), (.b false), (.b false), (.i .i64 0), (.sl none 0 0 true), z0, z0] [(0, 1, (xt 14)), (7, 1, (xt 15))]⟩,⟨some 17, none, .box 10 (xt 16)⟩,oa 5 17])
 (.seq (.reg [oa 18 5,⟨some 19, none, .call 152 [(xt 18), (xi 0)]⟩,⟨some 6, none, .alloc 232 [z0, z0, z0, z0, z0, z0, z0, (.s ⟨#[]⟩), (.sl none 0 0 true), (.sl none 0 0 true), (.sl none 0 0 true)]⟩,os 11 6 19])
 (.seq (.seq (.reg [oa 20 5,⟨some 21, none, .call 153 [(xt 20)]⟩,⟨some 22, none, .un .not (xt 21)⟩])
 (.cond (xt 22) (.reg [oa 23 5,oa 24 5,oc 25 24,of 26 1 25,ol 27 26,⟨some 28, none, .call 154 [(xt 23), (xi 30), (xt 27)]⟩])
 (.skip)))
 (.seq (.seq (.reg [oa 29 5,oc 30 29,of 31 8 30,ol 32 31,⟨some 33, none, .bin .neq (xt 32) (xi 0)⟩])
 (.cond (xt 33) (.seq (.regd [⟨some 34, none, .build [(.sl none 0 0 true), (.i .i64 0), (.sl none 0 0 true)] []⟩,oa 35 5,oc 36 35,of 37 8 36,ol 38 37,oa 39 5,oc 40 39,of 41 9 40,ol 42 41,os 3 2 34,oa 3 38,oa 4 42] [(4, 9), (8, 9)])
 (.ret))
 (.skip)))
 (.seq (.regd [⟨some 7, none, .alloc 82 [(.sl none 0 0 true), (.i .i64 0), (.sl none 0 0 true)]⟩,od 43 11 6,⟨some 44, none, .call 155 [(xt 43), (.c (.sl none 0 0 true))]⟩,oa 45 5,oc 46 45,of 47 6 46,ol 48 47,oa 49 5,oc 50 49,of 51 7 50,ol 52 51,⟨some 53, none, .build [(.sl none 0 0 true), (.i .i64 0), (.sl none 0 0 true)] [(0, 1, (xt 44)), (1, 1, (xt 48)), (2, 1, (xt 52))]⟩,os 3 7 53] [(6, 2), (10, 2)])
 (.seq (.seq (.reg [of 54 0 7,ol 55 54,oz 56 55,oi 57 0])
 (.blk 0 (.loop (.seq (.reg [ob 58 .lss 57 56])
 (.seq (.cond (xt 58) (.skip)
 (.exit 0))
 (.seq (.blk 1 (.seq (.reg [oa 59 57,⟨some 60, none, .ia 10 (xt 55) (xt 57)⟩,od 61 10 60,⟨some 9, none, .alloc 209 [z0, z0, z0, z0, z0, z0, z0, (.s ⟨#[]⟩), (.sl none 0 0 true), (.sl none 0 0 true)]⟩,oa 8 59,os 10 9 61])
 (.seq (.reg [of 62 0 9,ol 63 62,⟨some 64, none, .bin .eql (xt 63) (xi 4)⟩,oa 65 64,⟨some 66, yt 65, .fa 7 (xt 9)⟩,⟨some 67, yt 65, .ld (xt 66)⟩,⟨some 68, yt 65, .bin .neq (xt 67) (.c (.s ⟨#[]⟩))⟩,⟨some 69, none, .pick (xt 65) (xt 68) (.c (.b false))⟩])
 (.cond (xt 69) (.regd [of 70 0 7,ol 71 70,oa 72 8,oa 73 5,oc 74 73,of 75 7 74,ol 76 75,of 77 7 9,ol 78 77,⟨some 79, none, .call 156 [(xt 76), (xt 78)]⟩,⟨some 80, none, .mx [(xt 79), (xi 0)]⟩,⟨some 81, none, .ia 10 (xt 71) (xt 72)⟩,of 82 3 81,os 1 82 80] [(1, 9)])
 (.skip)))))
 (.reg [⟨some 83, none, .bin .add (xt 57) (xi 1)⟩,oa 57 83])))))))
 (.seq (.reg [od 84 3 7,os 3 2 84,oi 3 0,oi 4 0])
 (.ret)))))))))
theorem fn109 : F 109 = .go 85 [.c 2 (some 3), .t 3, .t 4] v109 := by rw [F, fnOf, Tryz.func109]; kernel_rfl

def v110 : VC :=
 .seq (.reg [⟨some 1, none, .box 3 (xt 0)⟩,oi 2 0,oi 3 0])
 (.seq (.reg [od 8 3 1,⟨some 9, none, .call 112 [(xt 8)]⟩,oa 4 9])
 (.seq (.seq (.reg [of 10 0 1,ol 11 10,oz 12 11,oi 13 0])
 (.blk 0 (.loop (.seq (.reg [ob 14 .lss 13 12])
 (.seq (.cond (xt 14) (.skip)
 (.exit 0))
 (.seq (.blk 1 (.seq (.reg [⟨some 15, none, .ia 10 (xt 11) (xt 13)⟩,od 16 10 15,⟨some 6, none, .alloc 209 [z0, z0, z0, z0, z0, z0, z0, (.s ⟨#[]⟩), (.sl none 0 0 true), (.sl none 0 0 true)]⟩,os 10 6 16])
 (.seq (.reg [od 17 3 1,od 18 10 6,oa 19 4,⟨some 20, none, .call 157 [(xt 17), (xt 18), (xt 19)]⟩,oa 7 20])
 (.seq (.reg [oa 21 7,⟨some 22, none, .bin .neq (xt 21) (xi 0)⟩])
 (.cond (xt 22) (.seq (.regd [oa 23 7,of 24 1 6,ol 25 24,oa 2 23,oa 3 25] [])
 (.ret))
 (.skip))))))
 (.reg [⟨some 26, none, .bin .add (xt 13) (xi 1)⟩,oa 13 26])))))))
 (.seq (.reg [oi 2 0,oi 3 0])
 (.ret))))
theorem fn110 : F 110 = .go 27 [.t 2, .t 3] v110 := by rw [F, fnOf, Tryz.func110]; kernel_rfl

def v111 : VC :=
 .seq (.reg [⟨some 2, none, .mv (.c (.sl none 0 0 true))⟩])
 (.seq (.reg [⟨some 3, none, .alloc 58 [(.sl none 0 0 true)]⟩])
 (.seq (.seq (.reg [oa 6 0,⟨some 7, none, .call 158 [(xt 6)]⟩])
 (.blk 0 (.rfn (xt 7) [8, 9] (.reg [oa 5 9])
 (.blk 1 (.reg [ol 10 3,oa 11 5,⟨some 12, none, .bsl 1 1 [(.i .i64 0)] [(0, 1, (xt 11))]⟩,⟨some 13, none, .app ⟨1, (some 3)⟩ 8 (xt 10) (xt 12)⟩,os 1 3 13])))))
 (.seq (.reg [ol 14 3,oa 2 14])
 (.ret))))
theorem fn111 : F 111 = .go 15 [.t 2] v111 := by rw [F, fnOf, Tryz.func111]; kernel_rfl

def v112 : VC :=
 .seq (.reg [⟨some 1, none, .box 3 (xt 0)⟩,⟨some 2, none, .mv (.c (.sl none 0 0 true))⟩])
 (.seq (.reg [of 5 0 1,ol 6 5,oz 7 6,⟨some 8, none, .mks 2 16 [z0, z0] (xt 7) (xt 7)⟩,oa 3 8])
 (.seq (.seq (.reg [of 9 0 1,ol 10 9,oz 11 10,⟨some 12, none, .bin .sub (xt 11) (xi 1)⟩,oa 4 12])
 (.blk 0 (.loop (.seq (.seq (.reg [oa 13 4,⟨some 14, none, .bin .geq (xt 13) (xi 0)⟩])
 (.cond (xt 14) (.skip)
 (.exit 0)))
 (.seq (.blk 1 (.reg [oa 17 3,oa 18 4,of 19 0 1,ol 20 19,oa 21 4,⟨some 22, none, .ia 10 (xt 20) (xt 21)⟩,od 23 10 22,oa 24 3,⟨some 25, none, .call 159 [(xt 23), (xt 24)]⟩,⟨some 26, none, .ia 2 (xt 17) (xt 18)⟩,os 2 26 25]))
 (.reg [oa 15 4,⟨some 16, none, .bin .sub (xt 15) (xi 1)⟩,oa 4 16]))))))
 (.seq (.reg [oa 27 3,oa 2 27])
 (.ret))))
theorem fn112 : F 112 = .go 28 [.t 2] v112 := by rw [F, fnOf, Tryz.func112]; kernel_rfl

def v113 : VC :=
 .seq (.reg [oa 7 0,oc 8 7,of 9 4 8,of 10 0 9,ol 11 10,oa 12 1,⟨some 13, none, .ia 10 (xt 11) (xt 12)⟩,od 14 10 13,⟨some 4, none, .alloc 209 [z0, z0, z0, z0, z0, z0, z0, (.s ⟨#[]⟩), (.sl none 0 0 true), (.sl none 0 0 true)]⟩,os 10 4 14])
 (.seq (.reg [of 15 0 4,ol 16 15])
 (.blk 0 (.seq (.reg [⟨some 22, none, .bin .eql (xt 16) (xi 5)⟩,oa 21 22])
 (.cond (xt 21) (.seq (.reg [of 23 9 4,ol 24 23,oz 25 24,oi 26 0])
 (.blk 1 (.loop (.seq (.reg [ob 27 .lss 26 25])
 (.seq (.cond (xt 27) (.skip)
 (.exit 1))
 (.seq (.blk 2 (.seq (.reg [⟨some 28, none, .ia 1 (xt 24) (xt 26)⟩,ol 29 28,oa 6 29])
 (.reg [oa 30 0,oa 31 6,⟨some 32, none, .call 113 [(xt 30), (xt 31)]⟩])))
 (.reg [⟨some 33, none, .bin .add (xt 26) (xi 1)⟩,oa 26 33])))))))
 (.seq (.reg [⟨some 35, none, .bin .eql (xt 16) (xi 6)⟩,oa 34 35])
 (.cond (xt 34) (.reg [oa 36 0,oa 37 1,of 38 9 4,ol 39 38,⟨some 40, none, .call 160 [(xt 36), (xt 37), (xt 39)]⟩])
 (.seq (.reg [⟨some 42, none, .bin .eql (xt 16) (xi 7)⟩,oa 41 42])
 (.cond (xt 41) (.seq (.reg [oa 43 0,oa 44 1,of 45 3 4,ol 46 45,⟨some 47, none, .call 114 [(xt 43), (xt 44), (xi 11), (xt 46), (xi 0), (xi 0)]⟩])
 (.seq (.reg [oa 48 0,of 49 9 4,ol 50 49,⟨some 51, none, .ia 1 (xt 50) (xi 0)⟩,ol 52 51,⟨some 53, none, .call 113 [(xt 48), (xt 52)]⟩])
 (.reg [oa 54 0,oa 55 1,of 56 3 4,ol 57 56,⟨some 58, none, .call 114 [(xt 54), (xt 55), (xi 12), (xt 57), (xi 0), (xi 0)]⟩])))
 (.seq (.reg [⟨some 60, none, .bin .eql (xt 16) (xi 8)⟩,oa 59 60])
 (.cond (xt 59) (.reg [oa 61 0,oa 62 1,od 63 10 4,⟨some 64, none, .call 161 [(xt 61), (xt 62), (xt 63)]⟩])
 (.seq (.reg [⟨some 66, none, .bin .eql (xt 16) (xi 9)⟩,oa 65 66])
 (.cond (xt 65) (.seq (.reg [oa 67 0,oa 68 1,⟨some 69, none, .call 114 [(xt 67), (xt 68), (xi 13), (xi (-1)), (xi 0), (xi 0)]⟩])
 (.seq (.reg [oa 70 0,of 71 9 4,ol 72 71,⟨some 73, none, .ia 1 (xt 72) (xi 0)⟩,ol 74 73,⟨some 75, none, .call 113 [(xt 70), (xt 74)]⟩])
 (.reg [oa 76 0,oa 77 1,⟨some 78, none, .call 114 [(xt 76), (xt 77), (xi 16), (xi 0), (xi 0), (xi 0)]⟩])))
 (.seq (.reg [⟨some 80, none, .bin .eql (xt 16) (xi 10)⟩,oa 79 80])
 (.cond (xt 79) (.reg [oa 81 0,oa 82 1,od 83 10 4,⟨some 84, none, .call 162 [(xt 81), (xt 82), (xt 83)]⟩])
 (.reg [oa 17 0,oa 18 1,od 19 10 4,⟨some 20, none, .call 163 [(xt 17), (xt 18), (xt 19)]⟩])))))))))))))))
theorem fn113 : F 113 = .go 85 [] v113 := by rw [F, fnOf, Tryz.func113]; kernel_rfl

def v114 : VC :=
 .seq (.reg [oi 12 0])
 (.seq (.reg [oa 13 0,oa 14 0,oc 15 14,of 16 0 15,of 17 0 16,ol 18 17,oa 19 2,oa 20 3,oa 21 4,oa 22 5,oa 23 1,⟨some 24, none, .build [z0, z0, z0, z0, z0, z0] [(0, 1, (xt 19)), (1, 1, (xt 20)), (2, 1, (xt 21)), (3, 1, (xt 22)), (4, 1, (xt 23))]⟩,⟨some 25, none, .bsl 6 1 [z0, z0, z0, z0, z0, z0] [(0, 6, (xt 24))]⟩,⟨some 26, none, .app ⟨6, (some 46)⟩ 48 (xt 18) (xt 25)⟩,oc 27 13,of 28 0 27,of 29 0 28,os 1 29 26])
 (.seq (.reg [oa 30 0,⟨some 31, none, .call 164 [(xt 30)]⟩,⟨some 32, none, .bin .sub (xt 31) (xi 1)⟩,oa 12 32])
 (.ret)))
theorem fn114 : F 114 = .go 33 [.t 12] v114 := by rw [F, fnOf, Tryz.func114]; kernel_rfl

def v115 : VC :=
 .seq (.reg [⟨some 1, none, .box 4 (xt 0)⟩,⟨some 2, none, .mv (.c (.b false))⟩])
 (.seq (.seq (.reg [of 10 0 1,ol 11 10,oz 12 11,⟨some 13, none, .bin .eql (xt 12) (xi 0)⟩,oa 14 13,⟨some 15, yn 14, .fa 2 (xt 1)⟩,⟨some 16, yn 14, .ld (xt 15)⟩,⟨some 17, yn 14, .len 1 (xt 16)⟩,⟨some 18, yn 14, .bin .gtr (xt 17) (xi 4096)⟩,⟨some 19, none, .pick (xt 14) (.c (.b true)) (xt 18)⟩,oa 20 19,⟨some 21, yn 20, .fa 3 (xt 1)⟩,⟨some 22, yn 20, .ld (xt 21)⟩,⟨some 23, yn 20, .call 165 [(xt 22), (xi 0), (xi 99)]⟩,⟨some 24, yn 20, .un .not (xt 23)⟩,⟨some 25, none, .pick (xt 20) (.c (.b true)) (xt 24)⟩])
 (.cond (xt 25) (.seq (.reg [⟨some 2, none, .mv (.c (.b false))⟩])
 (.ret))
 (.skip)))
 (.seq (.seq (.reg [of 26 1 1,ol 27 26,oz 28 27,oi 29 0])
 (.blk 0 (.loop (.seq (.reg [ob 30 .lss 29 28])
 (.seq (.cond (xt 30) (.skip)
 (.exit 0))
 (.seq (.blk 1 (.seq (.reg [⟨some 31, none, .ia 1 (xt 27) (xt 29)⟩,ol 32 31,oa 4 32])
 (.seq (.reg [oa 33 4,⟨some 34, none, .call 166 [(xt 33)]⟩,⟨some 35, none, .un .not (xt 34)⟩])
 (.cond (xt 35) (.seq (.reg [⟨some 2, none, .mv (.c (.b false))⟩])
 (.ret))
 (.skip)))))
 (.reg [⟨some 36, none, .bin .add (xt 29) (xi 1)⟩,oa 29 36])))))))
 (.seq (.seq (.reg [of 37 2 1,ol 38 37,oz 39 38,oi 40 0])
 (.blk 2 (.loop (.seq (.reg [ob 41 .lss 40 39])
 (.seq (.cond (xt 41) (.skip)
 (.exit 2))
 (.seq (.blk 3 (.seq (.reg [⟨some 42, none, .ia 3 (xt 38) (xt 40)⟩,od 43 3 42,⟨some 6, none, .alloc 248 [z0, z0, z0]⟩,os 3 6 43])
 (.seq (.reg [od 44 3 6,⟨some 45, none, .call 167 [(xt 44)]⟩,⟨some 46, none, .un .not (xt 45)⟩])
 (.cond (xt 46) (.seq (.reg [⟨some 2, none, .mv (.c (.b false))⟩])
 (.ret))
 (.skip)))))
 (.reg [⟨some 47, none, .bin .add (xt 40) (xi 1)⟩,oa 40 47])))))))
 (.seq (.seq (.reg [of 48 0 1,ol 49 48,oz 50 49,oi 51 0])
 (.blk 4 (.loop (.seq (.reg [ob 52 .lss 51 50])
 (.seq (.cond (xt 52) (.skip)
 (.exit 4))
 (.seq (.blk 5 (.seq (.reg [oa 53 51,⟨some 54, none, .ia 6 (xt 49) (xt 51)⟩,od 55 6 54,⟨some 8, none, .alloc 46 [z0, z0, z0, z0, z0, z0]⟩,oa 7 53,os 6 8 55])
 (.seq (.reg [oa 56 7,of 57 0 1,ol 58 57,oz 59 58,⟨some 60, none, .bin .sub (xt 59) (xi 1)⟩,ob 61 .eql 56 60,oa 9 61])
 (.seq (.reg [of 62 0 8,ol 63 62,⟨some 64, none, .call 165 [(xt 63), (xi 1), (xi 19)]⟩,⟨some 65, none, .un .not (xt 64)⟩,oa 66 65,⟨some 67, yn 66, .fa 0 (xt 8)⟩,⟨some 68, yn 66, .ld (xt 67)⟩,⟨some 69, yn 66, .bin .eql (xt 68) (xi 19)⟩,on 70 66 9,⟨some 71, yn 66, .eqb true (xt 69) (xt 70)⟩,⟨some 72, none, .pick (xt 66) (.c (.b true)) (xt 71)⟩,oa 73 72,⟨some 74, yn 73, .fa 4 (xt 8)⟩,⟨some 75, yn 73, .ld (xt 74)⟩,⟨some 76, yn 73, .call 165 [(xt 75), (xi 0), (xi 16384)]⟩,⟨some 77, yn 73, .un .not (xt 76)⟩,⟨some 78, none, .pick (xt 73) (.c (.b true)) (xt 77)⟩,oa 79 78,⟨some 80, yn 79, .fa 5 (xt 8)⟩,⟨some 81, yn 79, .ld (xt 80)⟩,⟨some 82, yn 79, .call 165 [(xt 81), (xi 0), (xi 16384)]⟩,⟨some 83, yn 79, .un .not (xt 82)⟩,⟨some 84, none, .pick (xt 79) (.c (.b true)) (xt 83)⟩,oa 85 84,⟨some 86, yn 85, .ldn 4 (xt 1)⟩,on 87 85 7,⟨some 88, yn 85, .ldn 6 (xt 8)⟩,⟨some 89, yn 85, .call 168 [(xt 86), (xt 87), (xt 88)]⟩,⟨some 90, yn 85, .un .not (xt 89)⟩,⟨some 91, none, .pick (xt 85) (.c (.b true)) (xt 90)⟩])
 (.cond (xt 91) (.seq (.reg [⟨some 2, none, .mv (.c (.b false))⟩])
 (.ret))
 (.skip))))))
 (.reg [⟨some 92, none, .bin .add (xt 51) (xi 1)⟩,oa 51 92])))))))
 (.seq (.reg [od 93 4 1,⟨some 94, none, .call 169 [(xt 93)]⟩,oa 2 94])
 (.ret))))))
theorem fn115 : F 115 = .go 95 [.t 2] v115 := by rw [F, fnOf, Tryz.func115]; kernel_rfl

def v116 : VC :=
 .seq (.reg [⟨some 1, none, .box 1 (xt 0)⟩,oi 2 0])
 (.seq (.reg [of 3 0 1,ol 4 3,oz 5 4,oa 2 5])
 (.ret))
theorem fn116 : F 116 = .go 6 [.t 2] v116 := by rw [F, fnOf, Tryz.func116]; kernel_rfl

def v117 : VC :=
 .seq (.reg [⟨some 2, none, .mv (.c (.p none))⟩,oi 3 0])
 (.seq (.seq (.reg [oa 4 0,⟨some 5, none, .bin .lss (xt 4) (xi 0)⟩,oa 6 5,on 7 6 0,⟨some 8, yn 6, .bin .gtr (xt 7) (xi 65536)⟩,⟨some 9, none, .pick (xt 6) (.c (.b true)) (xt 8)⟩])
 (.cond (xt 9) (.seq (.reg [⟨some 2, none, .mv (.c (.p none))⟩,oi 3 10])
 (.ret))
 (.skip)))
 (.seq (.reg [oa 10 0,⟨some 11, none, .build [z0, z0, (.sl none 0 0 true), (.sl none 0 0 true)] [(0, 1, (xt 10))]⟩,⟨some 12, none, .box 4 (xt 11)⟩,oa 2 12,oi 3 0])
 (.ret)))
theorem fn117 : F 117 = .go 13 [.t 2, .t 3] v117 := by rw [F, fnOf, Tryz.func117]; kernel_rfl

def v118 : VC :=
 .seq (.reg [⟨some 4, none, .mv (.c (.p none))⟩,oi 5 0])
 (.seq (.seq (.reg [oa 6 0,⟨some 7, none, .bin .lss (xt 6) (xi 0)⟩,oa 8 7,on 9 8 0,⟨some 10, yn 8, .bin .gtr (xt 9) (xi 65536)⟩,⟨some 11, none, .pick (xt 8) (.c (.b true)) (xt 10)⟩])
 (.cond (xt 11) (.seq (.reg [⟨some 4, none, .mv (.c (.p none))⟩,oi 5 10])
 (.ret))
 (.skip)))
 (.seq (.reg [oa 12 1,⟨some 13, none, .bsl 1 1 [(.i .i64 0)] [(0, 1, (xt 12))]⟩,oa 14 0,⟨some 15, none, .call 170 [(xt 13), (xt 14)]⟩,⟨some 16, none, .build [(.sl none 0 0 true), (.sl none 0 0 true)] [(0, 1, (xt 15))]⟩,⟨some 17, none, .box 2 (xt 16)⟩,oa 4 17,oi 5 0])
 (.ret)))
theorem fn118 : F 118 = .go 18 [.t 4, .t 5] v118 := by rw [F, fnOf, Tryz.func118]; kernel_rfl

def v119 : VC :=
 .seq (.reg [oi 4 0])
 (.seq (.reg [oa 5 0,oa 6 0,oc 7 6,of 8 0 7,of 9 2 8,ol 10 9,oz 11 10,⟨some 12, none, .call 171 [(xt 5), (xt 11)]⟩,oa 13 1,ob 14 .add 12 13,oa 4 14])
 (.ret))
theorem fn119 : F 119 = .go 15 [.t 4] v119 := by rw [F, fnOf, Tryz.func119]; kernel_rfl

def v120 : VC :=
 .seq (.reg [⟨some 2, none, .alloc 60 [z0, z0, z0, z0, z0, z0, z0, (.sl none 0 0 true)]⟩,⟨some 3, none, .mv (.c (.b false))⟩])
 (.seq (.seq (.regd [oa 4 0,oc 5 4,of 6 14 5,ol 7 6,⟨some 8, none, .bin .eql (xt 7) (xi 0)⟩,oa 9 8,ot 10 9 0,⟨some 11, yt 9, .nc (xt 10)⟩,⟨some 12, yt 9, .fa 13 (xt 11)⟩,⟨some 13, yt 9, .ld (xt 12)⟩,ot 14 9 0,⟨some 15, yt 9, .nc (xt 14)⟩,⟨some 16, yt 9, .fa 5 (xt 15)⟩,⟨some 17, yt 9, .fa 0 (xt 16)⟩,⟨some 18, yt 9, .ld (xt 17)⟩,⟨some 19, yt 9, .bin .eql (xt 13) (xt 18)⟩,⟨some 20, none, .pick (xt 9) (xt 19) (.c (.b false))⟩] [])
 (.cond (xt 20) (.reg [oa 21 0,oc 22 21,of 23 14 22,⟨none, none, .st 1 (xt 23) (xi 2)⟩])
 (.skip)))
 (.seq (.reg [oa 24 0,oc 25 24,of 26 25 25,⟨none, none, .st 1 (xt 26) (.c (.b false))⟩])
 (.seq (.blk 0 (.loop (.seq (.seq (.reg [oa 27 0,oc 28 27,of 29 14 28,ol 30 29,⟨some 31, none, .bin .eql (xt 30) (xi 0)⟩,oa 32 31,ot 33 32 0,⟨some 34, yt 32, .nc (xt 33)⟩,⟨some 35, yt 32, .fa 25 (xt 34)⟩,⟨some 36, yt 32, .ld (xt 35)⟩,⟨some 37, yt 32, .un .not (xt 36)⟩,⟨some 38, none, .pick (xt 32) (xt 37) (.c (.b false))⟩])
 (.cond (xt 38) (.skip)
 (.exit 0)))
 (.blk 1 (.seq (.reg [oa 39 0,oc 40 39,of 41 15 40,ol 42 41])
 (.cond (xt 42) (.reg [oa 43 0,⟨some 44, none, .call 172 [(xt 43)]⟩])
 (.reg [oa 45 0,⟨some 46, none, .call 173 [(xt 45)]⟩])))))))
 (.seq (.seq (.reg [oa 47 0,oc 48 47,of 49 25 48,ol 50 49,⟨some 51, none, .un .not (xt 50)⟩])
 (.cond (xt 51) (.seq (.reg [⟨some 52, none, .build [z0, z0, z0, z0, z0, z0, z0, (.sl none 0 0 true)] []⟩,os 8 2 52,⟨some 3, none, .mv (.c (.b false))⟩])
 (.ret))
 (.skip)))
 (.seq (.reg [oa 53 0,oc 54 53,of 55 13 54,ol 56 55,⟨some 57, none, .bin .add (xt 56) (xi 1)⟩,oc 58 53,of 59 13 58,os 1 59 57])
 (.seq (.reg [oa 60 0,oc 61 60,of 62 17 61,od 63 8 62,os 8 2 63,⟨some 3, none, .mv (.c (.b true))⟩])
 (.ret)))))))
theorem fn120 : F 120 = .go 64 [.c 2 (some 8), .t 3] v120 := by rw [F, fnOf, Tryz.func120]; kernel_rfl

def v121 : VC :=
 .seq (.reg [oi 2 0])
 (.seq (.reg [oa 3 0,oc 4 3,of 5 14 4,ol 6 5,oa 2 6])
 (.ret))
theorem fn121 : F 121 = .go 7 [.t 2] v121 := by rw [F, fnOf, Tryz.func121]; kernel_rfl

def v122 : VC :=
 .seq (.reg [oi 2 0])
 (.seq (.reg [oa 3 0,oc 4 3,of 5 1 4,ol 6 5,oa 2 6])
 (.ret))
theorem fn122 : F 122 = .go 7 [.t 2] v122 := by rw [F, fnOf, Tryz.func122]; kernel_rfl

def v123 : VC :=
 .seq (.reg [⟨some 4, none, .mv (.c (.sl none 0 0 true))⟩])
 (.seq (.reg [oa 8 0,oc 9 8,of 10 0 9,ol 11 10,oc 12 11,of 13 9 12,ol 14 13,oa 15 1,⟨some 16, none, .call 63 [(xt 14), (xt 15)]⟩,oa 7 16,oe 17 7 0,oe 18 7 1,oa 5 17,oa 6 18])
 (.seq (.reg [oa 19 0,oc 20 19,of 21 11 20,ol 22 21,oa 23 5,oz 24 23,ob 25 .add 22 24,oc 26 19,of 27 11 26,os 1 27 25])
 (.seq (.reg [oa 28 5,oa 4 28])
 (.ret))))
theorem fn123 : F 123 = .go 29 [.t 4] v123 := by rw [F, fnOf, Tryz.func123]; kernel_rfl

def v125 : VC :=
 .seq (.reg [⟨some 4, none, .mv (.c (.s ⟨#[]⟩))⟩])
 (.seq (.seq (.reg [⟨some 10, none, .mv (.t 1)⟩,⟨some 11, none, .bin .eql (.t 10) (.c (.i .i64 10))⟩])
 (.cond (.t 11) (.seq (.seq (.reg [⟨some 12, none, .mv (.t 0)⟩,⟨some 13, none, .bin .leq (.c (.i .i64 0)) (.t 12)⟩,⟨some 14, none, .mv (.t 13)⟩,⟨some 15, some (14, true), .mv (.t 0)⟩,⟨some 16, some (14, true), .bin .lss (.t 15) (.c (.i .i64 100))⟩,⟨some 17, none, .pick (.t 14) (.t 16) (.c (.b false))⟩])
 (.cond (.t 17) (.seq (.reg [⟨some 18, none, .mv (.t 0)⟩,⟨some 19, none, .call 176 [(.t 18)]⟩,⟨some 4, none, .mv (.t 19)⟩])
 (.ret))
 (.skip)))
 (.seq (.reg [⟨some 5, none, .alloc 260 [(.i .u8 0), (.i .u8 0), (.i .u8 0), (.i .u8 0), (.i .u8 0), (.i .u8 0), (.i .u8 0), (.i .u8 0), (.i .u8 0), (.i .u8 0), (.i .u8 0), (.i .u8 0), (.i .u8 0), (.i .u8 0), (.i .u8 0), (.i .u8 0), (.i .u8 0), (.i .u8 0), (.i .u8 0), (.i .u8 0), (.i .u8 0), (.i .u8 0), (.i .u8 0), (.i .u8 0)]⟩])
 (.seq (.reg [⟨some 20, none, .mv (.t 0)⟩,⟨some 21, none, .cvi .u64 (.t 20)⟩,⟨some 6, none, .mv (.t 21)⟩])
 (.seq (.seq (.reg [⟨some 22, none, .mv (.t 0)⟩,⟨some 23, none, .bin .lss (.t 22) (.c (.i .i64 0))⟩])
 (.cond (.t 23) (.reg [⟨some 24, none, .mv (.t 6)⟩,⟨some 25, none, .un .neg (.t 24)⟩,⟨some 6, none, .mv (.t 25)⟩])
 (.skip)))
 (.seq (.reg [⟨some 26, none, .mv (.t 6)⟩,⟨some 27, none, .call 177 [(.t 26)]⟩,⟨some 7, none, .mv (.t 27)⟩])
 (.seq (.reg [⟨some 28, none, .mv (.t 7)⟩,⟨some 29, none, .bin .add (.c (.i .i64 1)) (.t 28)⟩,⟨some 30, none, .sla 24 1 (.t 5) (some (.c (.i .i64 1))) (some (.t 29))⟩,⟨some 31, none, .mv (.t 6)⟩,⟨some 32, none, .call 178 [(.t 30), (.t 31)]⟩])
 (.seq (.seq (.reg [⟨some 33, none, .mv (.t 0)⟩,⟨some 34, none, .bin .lss (.t 33) (.c (.i .i64 0))⟩])
 (.cond (.t 34) (.seq (.reg [⟨some 35, none, .iaA 24 1 (.t 5) (.c (.i .i64 0))⟩,⟨none, none, .st 1 (.t 35) (.c (.i .u8 45))⟩])
 (.seq (.reg [⟨some 36, none, .mv (.t 7)⟩,⟨some 37, none, .bin .add (.c (.i .i64 1)) (.t 36)⟩,⟨some 38, none, .sla 24 1 (.t 5) none (some (.t 37))⟩,⟨some 39, none, .cvs (.t 38)⟩,⟨some 4, none, .mv (.t 39)⟩])
 (.ret)))
 (.skip)))
 (.seq (.reg [⟨some 40, none, .mv (.t 7)⟩,⟨some 41, none, .bin .add (.c (.i .i64 1)) (.t 40)⟩,⟨some 42, none, .sla 24 1 (.t 5) (some (.c (.i .i64 1))) (some (.t 41))⟩,⟨some 43, none, .cvs (.t 42)⟩,⟨some 4, none, .mv (.t 43)⟩])
 (.ret)))))))))
 (.skip)))
 (.seq (.reg [⟨some 45, none, .mv (.t 0)⟩,⟨some 46, none, .cvi .u64 (.t 45)⟩,⟨some 47, none, .mv (.t 1)⟩,⟨some 48, none, .mv (.t 0)⟩,⟨some 49, none, .bin .lss (.t 48) (.c (.i .i64 0))⟩,⟨some 50, none, .call 179 [(.c (.sl none 0 0 true)), (.t 46), (.t 47), (.t 49), (.c (.b false))]⟩,⟨some 44, none, .mv (.t 50)⟩,⟨some 51, none, .ext (.t 44) 0⟩,⟨some 52, none, .ext (.t 44) 1⟩,⟨some 8, none, .mv (.t 51)⟩,⟨some 9, none, .mv (.t 52)⟩])
 (.seq (.reg [⟨some 53, none, .mv (.t 9)⟩,⟨some 4, none, .mv (.t 53)⟩])
 (.ret))))
theorem fn125 : F 125 = .go 54 [.t 4] v125 := by rw [F, fnOf, Tryz.func125]; kernel_rfl

def v126 : VC :=
 .seq (.reg [⟨some 2, none, .mv (.t 0)⟩,⟨some 3, none, .nc (.t 2)⟩,⟨some 4, none, .fa 0 (.t 3)⟩,⟨some 5, none, .ld (.t 4)⟩,⟨some 6, none, .eqn .p false (.t 5) (.c (.p none))⟩])
 (.cond (.t 6) (.reg [⟨some 7, none, .mv (.t 0)⟩,⟨some 8, none, .mv (.t 0)⟩,⟨some 9, none, .pcv (.t 8)⟩,⟨some 10, none, .call 180 [(.t 9)]⟩,⟨some 11, none, .pcu 140 2 (.t 10)⟩,⟨some 12, none, .nc (.t 7)⟩,⟨some 13, none, .fa 0 (.t 12)⟩,⟨none, none, .st 1 (.t 13) (.t 11)⟩])
 (.seq (.reg [⟨some 14, none, .mv (.t 0)⟩,⟨some 15, none, .nc (.t 14)⟩,⟨some 16, none, .fa 0 (.t 15)⟩,⟨some 17, none, .ld (.t 16)⟩,⟨some 18, none, .mv (.t 0)⟩,⟨some 19, none, .eqp true (.t 17) (.t 18)⟩])
 (.cond (.t 19) (.reg [⟨none, none, .bad⟩])
 (.skip))))
theorem fn126 : F 126 = .go 20 [] v126 := by rw [F, fnOf, Tryz.func126]; kernel_rfl

def v127 : VC :=
 .seq (.regd [⟨some 5, none, .mv (.t 0)⟩,⟨some 6, none, .nc (.t 5)⟩,⟨some 7, none, .fa 1 (.t 6)⟩,⟨some 8, none, .ld (.t 7)⟩,⟨some 9, none, .cap (.t 8)⟩,⟨some 10, none, .bin .mul (.c (.i .i64 2)) (.t 9)⟩,⟨some 11, none, .mv (.t 1)⟩,⟨some 12, none, .bin .add (.t 10) (.t 11)⟩,⟨some 13, none, .call 181 [(.t 12)]⟩,⟨some 14, none, .mv (.t 0)⟩,⟨some 15, none, .nc (.t 14)⟩,⟨some 16, none, .fa 1 (.t 15)⟩,⟨some 17, none, .ld (.t 16)⟩,⟨some 18, none, .len 1 (.t 17)⟩,⟨some 19, none, .slc 1 (.t 13) none (some (.t 18)) none⟩,⟨some 4, none, .mv (.t 19)⟩] [(12, 8)])
 (.seq (.reg [⟨some 20, none, .mv (.t 4)⟩,⟨some 21, none, .mv (.t 0)⟩,⟨some 22, none, .nc (.t 21)⟩,⟨some 23, none, .fa 1 (.t 22)⟩,⟨some 24, none, .ld (.t 23)⟩,⟨some 25, none, .cpy 1 (.t 20) (.t 24)⟩])
 (.reg [⟨some 26, none, .mv (.t 0)⟩,⟨some 27, none, .mv (.t 4)⟩,⟨some 28, none, .nc (.t 26)⟩,⟨some 29, none, .fa 1 (.t 28)⟩,⟨none, none, .st 1 (.t 29) (.t 27)⟩]))
theorem fn127 : F 127 = .go 30 [] v127 := by rw [F, fnOf, Tryz.func127]; kernel_rfl

def v128 : VC :=
 .blk 0 (.loop (.seq (.seq (.reg [ol 5 1,⟨some 6, none, .len 0 (xt 5)⟩,⟨some 7, none, .bin .gtr (xt 6) (xi 0)⟩])
 (.cond (xt 7) (.skip)
 (.exit 0)))
 (.blk 1 (.seq (.reg [⟨some 3, none, .mv (.c (.s ⟨#[]⟩))⟩])
 (.seq (.seq (.reg [ol 8 1,⟨some 9, none, .call 129 [(xt 8), (.c (.i .u8 10))]⟩,oa 4 9])
 (.seq (.reg [oa 10 4,⟨some 11, none, .bin .geq (xt 10) (xi 0)⟩])
 (.cond (xt 11) (.regd [ol 12 1,oa 13 4,⟨some 14, none, .bin .add (xt 13) (xi 1)⟩,⟨some 15, none, .sls (xt 12) none (some (xt 14))⟩,ol 16 1,oa 17 4,⟨some 18, none, .bin .add (xt 17) (xi 1)⟩,⟨some 19, none, .sls (xt 16) (some (xt 18)) none⟩,oa 3 15,os 1 1 19] [])
 (.reg [ol 20 1,oa 3 20,⟨none, none, .st 1 (xt 1) (.c (.s ⟨#[]⟩))⟩]))))
 (.seq (.reg [oa 21 0,oa 22 3,⟨some 23, none, .cv (xt 21) [(xt 22)]⟩,⟨some 24, none, .un .not (xt 23)⟩])
 (.cond (xt 24) (.ret)
 (.skip))))))))
theorem fn128 : F 128 = .go 25 [] v128 := by rw [F, fnOf, Tryz.func128]; kernel_rfl

def v129 : VC :=
 .seq (.reg [oi 4 0])
 (.seq (.reg [oa 5 0,oa 6 1,⟨some 7, none, .call 182 [(xt 5), (xt 6)]⟩,oa 4 7])
 (.ret))
theorem fn129 : F 129 = .go 8 [.t 4] v129 := by rw [F, fnOf, Tryz.func129]; kernel_rfl

def v130 : VC :=
 .seq (.reg [⟨some 4, none, .mv (.c (.s ⟨#[]⟩))⟩])
 (.seq (.seq (.reg [oa 5 0,oa 6 1,⟨some 7, none, .call 183 [(xt 5), (xt 6)]⟩])
 (.cond (xt 7) (.seq (.reg [oa 8 0,oa 9 0,⟨some 10, none, .len 0 (xt 9)⟩,oa 11 1,⟨some 12, none, .len 0 (xt 11)⟩,ob 13 .sub 10 12,⟨some 14, none, .sls (xt 8) none (some (xt 13))⟩,oa 4 14])
 (.ret))
 (.skip)))
 (.seq (.reg [oa 15 0,oa 4 15])
 (.ret)))
theorem fn130 : F 130 = .go 16 [.t 4] v130 := by rw [F, fnOf, Tryz.func130]; kernel_rfl

def v131 : VC :=
 .seq (.reg [⟨some 2, none, .alloc 57 [z0, z0, z0, z0]⟩,oi 3 0])
 (.seq (.reg [oa 10 0,⟨some 11, none, .call 184 [(xt 10), (.c (.f 185 [] []))]⟩,oa 4 11])
 (.seq (.seq (.reg [oa 12 4,oz 13 12,⟨some 14, none, .bin .eql (xt 13) (xi 0)⟩])
 (.cond (xt 14) (.seq (.reg [⟨some 15, none, .build [z0, z0, z0, z0] []⟩,os 4 2 15,oi 3 62])
 (.ret))
 (.skip)))
 (.seq (.regd [⟨some 16, none, .call 132 []⟩,⟨some 17, none, .slc 1 (xt 16) (some (xi 1)) none none⟩,oa 18 4,⟨some 19, none, .ia 1 (xt 18) (xi 0)⟩,ol 20 19,⟨some 21, none, .call 156 [(xt 17), (xt 20)]⟩,⟨some 22, none, .bin .add (xt 21) (xi 1)⟩,oa 5 22] [(4, 0)])
 (.seq (.seq (.reg [oa 23 5,⟨some 24, none, .bin .lss (xt 23) (xi 1)⟩])
 (.cond (xt 24) (.seq (.reg [⟨some 25, none, .build [z0, z0, z0, z0] []⟩,os 4 2 25,oi 3 60])
 (.ret))
 (.skip)))
 (.seq (.reg [oa 27 5,⟨some 28, none, .call 86 [(xt 27)]⟩,oa 26 28,oe 29 26 0,oe 30 26 1,oa 6 29,oa 7 30])
 (.seq (.seq (.reg [oa 31 4,oz 32 31,⟨some 33, none, .bin .sub (xt 32) (xi 1)⟩,oa 34 6,ob 35 .lss 33 34,oa 36 35,on 37 36 4,⟨some 38, yn 36, .len 1 (xt 37)⟩,⟨some 39, yn 36, .bin .sub (xt 38) (xi 1)⟩,on 40 36 7,⟨some 41, yn 36, .bin .gtr (xt 39) (xt 40)⟩,⟨some 42, none, .pick (xt 36) (.c (.b true)) (xt 41)⟩])
 (.cond (xt 42) (.seq (.reg [⟨some 43, none, .build [z0, z0, z0, z0] []⟩,os 4 2 43,oi 3 62])
 (.ret))
 (.skip)))
 (.seq (.blk 0 (.seq (.reg [oa 45 5,⟨some 46, none, .bin .eql (xt 45) (xi 7)⟩,oa 44 46])
 (.cond (xt 44) (.seq (.regd [oa 47 4,⟨some 48, none, .ia 1 (xt 47) (xi 1)⟩,ol 49 48,oa 50 4,⟨some 51, none, .ia 1 (xt 50) (xi 2)⟩,ol 52 51,⟨some 53, none, .call 186 [(xt 49), (xt 52)]⟩,oe 54 53 0,oe 55 53 1,os 4 2 54,oa 3 55] [])
 (.ret))
 (.seq (.reg [oa 57 7,⟨some 58, none, .bin .eql (xt 57) (xi 0)⟩,oa 56 58])
 (.cond (xt 56) (.seq (.reg [oa 59 5,⟨some 60, none, .build [z0, z0, z0, z0] [(0, 1, (xt 59))]⟩,os 4 2 60,oi 3 0])
 (.ret))
 (.seq (.reg [oa 62 4,oz 63 62,⟨some 64, none, .bin .eql (xt 63) (xi 1)⟩,oa 61 64])
 (.cond (xt 61) (.seq (.reg [oa 65 5,⟨some 66, none, .build [z0, z0, z0, z0] [(0, 1, (xt 65)), (1, 1, (xi 1))]⟩,os 4 2 66,oi 3 0])
 (.ret))
 (.skip))))))))
 (.seq (.reg [oa 68 4,⟨some 69, none, .ia 1 (xt 68) (xi 1)⟩,ol 70 69,⟨some 71, none, .call 187 [(xt 70)]⟩,oa 67 71,oe 72 67 0,oe 73 67 1,oa 8 72,oa 9 73])
 (.seq (.seq (.reg [oa 74 9,⟨some 75, none, .bin .neq (xt 74) (xi 0)⟩])
 (.cond (xt 75) (.seq (.reg [⟨some 76, none, .build [z0, z0, z0, z0] []⟩,oa 77 9,os 4 2 76,oa 3 77])
 (.ret))
 (.skip)))
 (.seq (.reg [oa 78 5,oa 79 8,⟨some 80, none, .build [z0, z0, z0, z0] [(0, 1, (xt 78)), (1, 1, (xt 79))]⟩,os 4 2 80,oi 3 0])
 (.ret)))))))))))
theorem fn131 : F 131 = .go 81 [.c 2 (some 4), .t 3] v131 := by rw [F, fnOf, Tryz.func131]; kernel_rfl

def v132 : VC :=
 .seq (.reg [⟨some 0, none, .mv (.c (.sl none 0 0 true))⟩])
 (.seq (.reg [⟨some 1, none, .bsl 1 15 [(.s ⟨#[]⟩), (.s ⟨#[]⟩), (.s ⟨#[]⟩), (.s ⟨#[]⟩), (.s ⟨#[]⟩), (.s ⟨#[]⟩), (.s ⟨#[]⟩), (.s ⟨#[]⟩), (.s ⟨#[]⟩), (.s ⟨#[]⟩), (.s ⟨#[]⟩), (.s ⟨#[]⟩), (.s ⟨#[]⟩), (.s ⟨#[]⟩), (.s ⟨#[]⟩)] [(1, 1, (.c (.s ⟨#[115, 116, 101, 112]⟩))), (2, 1, (.c (.s ⟨#[98, 97, 99, 107]⟩))), (3, 1, (.c (.s ⟨#[103, 111, 116, 111]⟩))), (4, 1, (.c (.s ⟨#[99, 111, 110, 116, 105, 110, 117, 101]⟩))), (5, 1, (.c (.s ⟨#[114, 101, 118, 101, 114, 115, 101]⟩))), (6, 1, (.c (.s ⟨#[97, 103, 97, 105, 110]⟩))), (7, 1, (.c (.s ⟨#[97, 100, 100]⟩))), (8, 1, (.c (.s ⟨#[114, 101, 109, 111, 118, 101]⟩))), (9, 1, (.c (.s ⟨#[112, 111, 105, 110, 116, 115]⟩))), (10, 1, (.c (.s ⟨#[115, 104, 111, 119]⟩))), (11, 1, (.c (.s ⟨#[116, 114, 101, 101]⟩))), (12, 1, (.c (.s ⟨#[119, 104, 121]⟩))), (13, 1, (.c (.s ⟨#[114, 101, 115, 117, 108, 116]⟩))), (14, 1, (.c (.s ⟨#[99, 111, 100, 101]⟩)))]⟩,⟨some 0, none, .mv (.t 1)⟩])
 (.ret))
theorem fn132 : F 132 = .go 2 [.t 0] v132 := by rw [F, fnOf, Tryz.func132]; kernel_rfl

def v133 : VC :=
 .seq (.reg [⟨some 6, none, .mv (.c (.sl none 0 0 true))⟩])
 (.seq (.reg [⟨some 8, none, .mv (.t 0)⟩,⟨some 9, none, .mv (.t 1)⟩,⟨some 10, none, .mv (.t 2)⟩,⟨some 11, none, .mv (.t 0)⟩,⟨some 12, none, .len 1 (.t 11)⟩,⟨some 13, none, .slc 2 (.t 8) (some (.t 9)) (some (.t 10)) (some (.t 12))⟩])
 (.seq (.seq (.reg [⟨some 14, none, .mv (.t 1)⟩,⟨some 15, none, .mv (.t 2)⟩,⟨some 16, none, .bin .eql (.t 14) (.t 15)⟩])
 (.cond (.t 16) (.seq (.reg [⟨some 17, none, .mv (.t 0)⟩,⟨some 6, none, .mv (.t 17)⟩])
 (.ret))
 (.skip)))
 (.seq (.reg [⟨some 18, none, .mv (.t 0)⟩,⟨some 19, none, .len 1 (.t 18)⟩,⟨some 7, none, .mv (.t 19)⟩])
 (.seq (.regd [⟨some 20, none, .mv (.t 0)⟩,⟨some 21, none, .mv (.t 1)⟩,⟨some 22, none, .slc 2 (.t 20) none (some (.t 21)) none⟩,⟨some 23, none, .mv (.t 0)⟩,⟨some 24, none, .mv (.t 2)⟩,⟨some 25, none, .slc 2 (.t 23) (some (.t 24)) none none⟩,⟨some 26, none, .app ⟨2, (some 31)⟩ 16 (.t 22) (.t 25)⟩,⟨some 0, none, .mv (.t 26)⟩] [])
 (.seq (.reg [⟨some 27, none, .mv (.t 0)⟩,⟨some 28, none, .mv (.t 0)⟩,⟨some 29, none, .len 1 (.t 28)⟩,⟨some 30, none, .mv (.t 7)⟩,⟨some 31, none, .slc 2 (.t 27) (some (.t 29)) (some (.t 30)) none⟩,⟨none, none, .clr [(.i .i64 0), (.i .i64 0)] (.t 31)⟩])
 (.seq (.reg [⟨some 32, none, .mv (.t 0)⟩,⟨some 6, none, .mv (.t 32)⟩])
 (.ret)))))))
theorem fn133 : F 133 = .go 33 [.t 6] v133 := by rw [F, fnOf, Tryz.func133]; kernel_rfl

def v139 : VC :=
 .seq (.reg [⟨some 2, none, .mv (.c (.s ⟨#[]⟩))⟩])
 (.seq (.reg [⟨some 3, none, .alloc 140 [(.p none), (.sl none 0 0 true)]⟩])
 (.seq (.reg [⟨some 6, none, .call 189 [(xt 3), (.c (.i .u8 34))]⟩])
 (.seq (.seq (.reg [oa 7 0,oz 8 7,oi 9 0])
 (.blk 0 (.loop (.seq (.reg [ob 10 .lss 9 8])
 (.seq (.cond (xt 10) (.skip)
 (.exit 0))
 (.seq (.blk 1 (.seq (.reg [⟨some 11, none, .ia 1 (xt 7) (xt 9)⟩,ol 12 11,oa 5 12])
 (.blk 2 (.seq (.reg [oa 16 5,⟨some 17, none, .bin .eql (xt 16) (.c (.i .u8 34))⟩,oa 18 17,on 19 18 5,⟨some 20, yn 18, .bin .eql (xt 19) (.c (.i .u8 92))⟩,⟨some 21, none, .pick (xt 18) (.c (.b true)) (xt 20)⟩,oa 15 21])
 (.cond (xt 15) (.seq (.reg [⟨some 22, none, .call 189 [(xt 3), (.c (.i .u8 92))]⟩])
 (.reg [oa 23 5,⟨some 24, none, .call 189 [(xt 3), (xt 23)]⟩]))
 (.seq (.reg [oa 26 5,⟨some 27, none, .bin .lss (xt 26) (.c (.i .u8 32))⟩,oa 28 27,on 29 28 5,⟨some 30, yn 28, .bin .gtr (xt 29) (.c (.i .u8 126))⟩,⟨some 31, none, .pick (xt 28) (.c (.b true)) (xt 30)⟩,oa 25 31])
 (.cond (xt 25) (.regd [oa 32 5,⟨some 33, none, .bin .quo (xt 32) (.c (.i .u8 16))⟩,⟨some 34, none, .ixs (.c (.s ⟨#[48, 49, 50, 51, 52, 53, 54, 55, 56, 57, 97, 98, 99, 100, 101, 102]⟩)) (xt 33)⟩,⟨some 35, none, .i2s (xt 34)⟩,⟨some 36, none, .bin .add (.c (.s ⟨#[92, 120]⟩)) (xt 35)⟩,oa 37 5,⟨some 38, none, .bin .rem (xt 37) (.c (.i .u8 16))⟩,⟨some 39, none, .ixs (.c (.s ⟨#[48, 49, 50, 51, 52, 53, 54, 55, 56, 57, 97, 98, 99, 100, 101, 102]⟩)) (xt 38)⟩,⟨some 40, none, .i2s (xt 39)⟩,ob 41 .add 36 40,⟨some 42, none, .call 80 [(xt 3), (xt 41)]⟩] [])
 (.reg [oa 13 5,⟨some 14, none, .call 189 [(xt 3), (xt 13)]⟩]))))))))
 (.reg [⟨some 43, none, .bin .add (xt 9) (xi 1)⟩,oa 9 43])))))))
 (.seq (.reg [⟨some 44, none, .call 189 [(xt 3), (.c (.i .u8 34))]⟩])
 (.seq (.reg [⟨some 45, none, .call 81 [(xt 3)]⟩,oa 2 45])
 (.ret))))))
theorem fn139 : F 139 = .go 46 [.t 2] v139 := by rw [F, fnOf, Tryz.func139]; kernel_rfl

def v140 : VC :=
 .seq (.reg [⟨some 1, none, .box 10 (xt 0)⟩,⟨some 2, none, .mv (.c (.s ⟨#[]⟩))⟩])
 (.seq (.regd [of 3 1 1,ol 4 3,⟨some 5, none, .call 37 [(xt 4)]⟩,⟨some 6, none, .bin .add (.c (.s ⟨#[91]⟩)) (xt 5)⟩,⟨some 7, none, .bin .add (xt 6) (.c (.s ⟨#[44]⟩))⟩,of 8 2 1,ol 9 8,⟨some 10, none, .call 37 [(xt 9)]⟩,ob 11 .add 7 10,⟨some 12, none, .bin .add (xt 11) (.c (.s ⟨#[41]⟩))⟩,oa 2 12] [(6, 2)])
 (.ret))
theorem fn140 : F 140 = .go 13 [.t 2] v140 := by rw [F, fnOf, Tryz.func140]; kernel_rfl

def v141 : VC :=
 .seq (.reg [⟨some 2, none, .box 10 (xt 0)⟩,⟨some 3, none, .box 8 (xt 1)⟩,⟨some 4, none, .mv (.c (.s ⟨#[]⟩))⟩])
 (.seq (.reg [of 7 3 3,ol 8 7,⟨some 9, none, .call 37 [(xt 8)]⟩,oa 5 9])
 (.seq (.seq (.reg [of 10 0 3,ol 11 10])
 (.blk 0 (.seq (.reg [⟨some 13, none, .bin .eql (xt 11) (xi 1)⟩,oa 12 13])
 (.cond (xt 12) (.seq (.reg [oa 14 5,⟨some 15, none, .bin .add (.c (.s ⟨#[97, 110, 32, 97, 116, 116, 101, 109, 112, 116, 32, 97, 116, 32]⟩)) (xt 14)⟩,oa 4 15])
 (.ret))
 (.seq (.reg [⟨some 17, none, .bin .eql (xt 11) (xi 2)⟩,oa 16 17])
 (.cond (xt 16) (.seq (.reg [oa 18 5,⟨some 19, none, .bin .add (.c (.s ⟨#[116, 97, 107, 101, 115, 32, 117, 112, 32, 116, 111, 32]⟩)) (xt 18)⟩,oa 4 19])
 (.ret))
 (.seq (.reg [⟨some 21, none, .bin .eql (xt 11) (xi 3)⟩,oa 20 21])
 (.cond (xt 20) (.seq (.seq (.reg [od 22 10 2,od 23 8 3,⟨some 24, none, .call 190 [(xt 22), (xt 23)]⟩,oa 6 24])
 (.seq (.reg [oa 25 6,⟨some 26, none, .call 191 [(xt 25), (.c (.s ⟨#[32]⟩))]⟩])
 (.cond (xt 26) (.seq (.reg [oa 27 6,oa 28 5,ob 29 .add 27 28,oa 4 29])
 (.ret))
 (.skip))))
 (.seq (.reg [od 30 10 2,od 31 8 3,⟨some 32, none, .call 190 [(xt 30), (xt 31)]⟩,oa 4 32])
 (.ret)))
 (.seq (.reg [⟨some 34, none, .bin .eql (xt 11) (xi 4)⟩,oa 33 34])
 (.cond (xt 33) (.seq (.reg [oa 35 5,⟨some 36, none, .bin .add (.c (.s ⟨#[104, 111, 108, 100, 115, 32, 97, 116, 32]⟩)) (xt 35)⟩,oa 4 36])
 (.ret))
 (.seq (.reg [⟨some 38, none, .bin .eql (xt 11) (xi 5)⟩,oa 37 38])
 (.cond (xt 37) (.seq (.reg [oa 39 5,⟨some 40, none, .bin .add (.c (.s ⟨#[110, 101, 101, 100, 115, 32, 97, 32, 116, 117, 114, 110, 32, 97, 116, 32]⟩)) (xt 39)⟩,oa 4 40])
 (.ret))
 (.seq (.reg [⟨some 42, none, .bin .eql (xt 11) (xi 6)⟩,oa 41 42])
 (.cond (xt 41) (.seq (.reg [od 43 10 2,of 44 2 3,ol 45 44,⟨some 46, none, .call 192 [(xt 43), (xt 45)]⟩,⟨some 47, none, .bin .add (.c (.s ⟨#[102, 105, 114, 115, 116, 32]⟩)) (xt 46)⟩,oa 4 47])
 (.ret))
 (.seq (.reg [⟨some 49, none, .bin .eql (xt 11) (xi 7)⟩,oa 48 49])
 (.cond (xt 48) (.seq (.regd [of 50 6 3,ol 51 50,⟨some 52, none, .call 37 [(xt 51)]⟩,⟨some 53, none, .bin .add (.c (.s ⟨#[98, 97, 99, 107, 32, 116, 111, 32, 35]⟩)) (xt 52)⟩,⟨some 54, none, .bin .add (xt 53) (.c (.s ⟨#[44, 32, 116, 104, 101, 110, 32]⟩))⟩,od 55 10 2,of 56 2 3,ol 57 56,⟨some 58, none, .call 192 [(xt 55), (xt 57)]⟩,ob 59 .add 54 58,oa 4 59] [(5, 2), (7, 2)])
 (.ret))
 (.seq (.reg [⟨some 61, none, .bin .eql (xt 11) (xi 8)⟩,oa 60 61])
 (.cond (xt 60) (.seq (.reg [of 62 3 2,ol 63 62,⟨some 64, none, .call 37 [(xt 63)]⟩,⟨some 65, none, .bin .add (.c (.s ⟨#[103, 114, 111, 117, 112, 32]⟩)) (xt 64)⟩,⟨some 66, none, .bin .add (xt 65) (.c (.s ⟨#[32, 111, 112, 101, 110, 115, 32, 97, 116, 32]⟩))⟩,oa 67 5,ob 68 .add 66 67,oa 4 68])
 (.ret))
 (.seq (.reg [⟨some 70, none, .bin .eql (xt 11) (xi 9)⟩,oa 69 70])
 (.cond (xt 69) (.seq (.reg [of 71 3 2,ol 72 71,⟨some 73, none, .call 37 [(xt 72)]⟩,⟨some 74, none, .bin .add (.c (.s ⟨#[103, 114, 111, 117, 112, 32]⟩)) (xt 73)⟩,⟨some 75, none, .bin .add (xt 74) (.c (.s ⟨#[32, 99, 108, 111, 115, 101, 115, 32, 97, 116, 32]⟩))⟩,oa 76 5,ob 77 .add 75 76,oa 4 77])
 (.ret))
 (.seq (.reg [⟨some 79, none, .bin .eql (xt 11) (xi 10)⟩,oa 78 79])
 (.cond (xt 78) (.seq (.reg [oa 80 5,⟨some 81, none, .bin .add (.c (.s ⟨#[103, 111, 101, 115, 32, 105, 110, 32, 97, 116, 32]⟩)) (xt 80)⟩,oa 4 81])
 (.ret))
 (.seq (.reg [⟨some 83, none, .bin .eql (xt 11) (xi 11)⟩,oa 82 83])
 (.cond (xt 82) (.seq (.reg [od 84 8 3,⟨some 85, none, .call 193 [(.c (.s ⟨#[99, 111, 109, 101, 115, 32, 111, 117, 116]⟩)), (xt 84)]⟩,oa 4 85])
 (.ret))
 (.seq (.reg [⟨some 87, none, .bin .eql (xt 11) (xi 12)⟩,oa 86 87])
 (.cond (xt 86) (.seq (.reg [od 88 8 3,⟨some 89, none, .call 193 [(.c (.s ⟨#[105, 115, 32, 103, 105, 118, 101, 110, 32, 117, 112]⟩)), (xt 88)]⟩,oa 4 89])
 (.ret))
 (.seq (.reg [⟨some 91, none, .bin .eql (xt 11) (xi 13)⟩,oa 90 91])
 (.cond (xt 90) (.seq (.reg [of 92 4 3,ol 93 92,⟨some 94, none, .call 37 [(xt 93)]⟩,⟨some 95, none, .bin .add (.c (.s ⟨#[109, 97, 116, 99, 104, 101, 115, 32]⟩)) (xt 94)⟩,⟨some 96, none, .bin .add (xt 95) (.c (.s ⟨#[32, 116, 111, 32]⟩))⟩,oa 97 5,ob 98 .add 96 97,oa 4 98])
 (.ret))
 (.seq (.reg [⟨some 100, none, .bin .eql (xt 11) (xi 14)⟩,oa 99 100])
 (.cond (xt 99) (.seq (.reg [⟨some 4, none, .mv (.c (.s ⟨#[110, 111, 32, 109, 97, 116, 99, 104]⟩))⟩])
 (.ret))
 (.skip)))))))))))))))))))))))))))))))
 (.seq (.reg [⟨some 4, none, .mv (.c (.s ⟨#[]⟩))⟩])
 (.ret))))
theorem fn141 : F 141 = .go 101 [.t 4] v141 := by rw [F, fnOf, Tryz.func141]; kernel_rfl

def v144 : VC :=
 .seq (.reg [oi 2 0])
 (.seq (.reg [oi 3 0])
 (.seq (.blk 0 (.loop (.seq (.seq (.reg [oa 4 0,⟨some 5, none, .bin .gtr (xt 4) (.c (.i .u64 0))⟩])
 (.cond (xt 5) (.skip)
 (.exit 0)))
 (.seq (.blk 1 (.reg [oa 8 3,⟨some 9, none, .bin .add (xt 8) (xi 1)⟩,oa 3 9]))
 (.reg [oa 6 0,⟨some 7, none, .bin .shr (xt 6) (.c (.i .u64 1))⟩,oa 0 7])))))
 (.seq (.reg [oa 10 3,oa 2 10])
 (.ret))))
theorem fn144 : F 144 = .go 11 [.t 2] v144 := by rw [F, fnOf, Tryz.func144]; kernel_rfl

def v145 : VC :=
 .seq (.reg [⟨some 1, none, .box 8 (xt 0)⟩,⟨some 2, none, .mv (.c (.b false))⟩])
 (.seq (.regd [od 3 8 1,od 4 8 1,⟨some 5, none, .call 150 [(xt 4)]⟩,⟨some 6, none, .call 149 [(xt 3), (xt 5)]⟩,oa 7 6,⟨some 8, yn 7, .ldn 8 (xt 1)⟩,⟨some 9, yn 7, .call 150 [(xt 8)]⟩,⟨some 10, yn 7, .bin .geq (xt 9) (xi 0)⟩,on 11 7 10,⟨some 12, yt 11, .ldn 8 (xt 1)⟩,⟨some 13, yt 11, .ldn 8 (xt 1)⟩,⟨some 14, yt 11, .call 150 [(xt 13)]⟩,⟨some 15, yt 11, .call 102 [(xt 14)]⟩,⟨some 16, yt 11, .call 28 [(xt 12), (xt 15)]⟩,⟨some 17, yn 7, .pick (xt 11) (xt 16) (.c (.b false))⟩,⟨some 18, none, .pick (xt 7) (.c (.b true)) (xt 17)⟩,oa 2 18] [(0, 2), (9, 11), (9, 12)])
 (.ret))
theorem fn145 : F 145 = .go 19 [.t 2] v145 := by rw [F, fnOf, Tryz.func145]; kernel_rfl

def v146 : VC :=
 .seq (.reg [oi 4 0])
 (.seq (.seq (.reg [oa 8 0,oc 9 8,of 10 2 9,ol 11 10,⟨some 12, none, .bin .neq (xt 11) (xi 0)⟩])
 (.cond (xt 12) (.seq (.reg [oi 4 0])
 (.ret))
 (.skip)))
 (.seq (.regd [oa 14 0,oc 15 14,of 16 0 15,ol 17 16,oa 18 0,oc 19 18,of 20 1 19,ol 21 20,⟨some 22, none, .call 101 [(xt 17), (xt 21)]⟩,oa 13 22,oe 23 13 0,oe 24 13 1,oe 25 13 2,oa 5 23,oa 6 24,oa 7 25] [])
 (.seq (.seq (.reg [oa 26 7,⟨some 27, none, .bin .eql (xt 26) (xi 0)⟩,oa 28 27,ot 29 28 5,ot 30 28 1,⟨some 31, yt 28, .cvi .u64 (xt 30)⟩,⟨some 32, yt 28, .bin .gtr (xt 29) (xt 31)⟩,⟨some 33, none, .pick (xt 28) (xt 32) (.c (.b false))⟩])
 (.cond (xt 33) (.reg [oi 7 11])
 (.skip)))
 (.seq (.seq (.reg [oa 34 0,oa 35 7,oc 36 34,of 37 2 36,os 1 37 35])
 (.seq (.reg [oa 38 7,⟨some 39, none, .bin .neq (xt 38) (xi 0)⟩])
 (.cond (xt 39) (.seq (.reg [oi 4 0])
 (.ret))
 (.skip))))
 (.seq (.reg [oa 40 0,oc 41 40,of 42 1 41,ol 43 42,oa 44 6,ob 45 .add 43 44,oc 46 40,of 47 1 46,os 1 47 45])
 (.seq (.reg [oa 48 5,⟨some 49, none, .cvi .i64 (xt 48)⟩,oa 4 49])
 (.ret)))))))
theorem fn146 : F 146 = .go 50 [.t 4] v146 := by rw [F, fnOf, Tryz.func146]; kernel_rfl

def v149 : VC :=
 .seq (.reg [⟨some 2, none, .box 8 (xt 0)⟩,⟨some 4, none, .mv (.c (.b false))⟩])
 (.seq (.seq (.reg [oa 8 1,⟨some 9, none, .call 196 [(xt 8), (xi 0), (xi 99)]⟩,⟨some 10, none, .un .not (xt 9)⟩,oa 11 10,⟨some 12, yn 11, .fa 7 (xt 2)⟩,⟨some 13, yn 11, .ld (xt 12)⟩,⟨some 14, yn 11, .len 1 (xt 13)⟩,on 15 11 1,⟨some 16, yn 11, .bin .add (xt 15) (xi 1)⟩,⟨some 17, yn 11, .bin .mul (xi 2) (xt 16)⟩,⟨some 18, yn 11, .bin .neq (xt 14) (xt 17)⟩,⟨some 19, none, .pick (xt 11) (.c (.b true)) (xt 18)⟩])
 (.cond (xt 19) (.seq (.reg [⟨some 4, none, .mv (.c (.b false))⟩])
 (.ret))
 (.skip)))
 (.seq (.reg [of 20 0 2,ol 21 20,⟨some 22, none, .call 196 [(xt 21), (xi 1), (xi 14)]⟩,oa 23 22,⟨some 24, yt 23, .fa 1 (xt 2)⟩,⟨some 25, yt 23, .ld (xt 24)⟩,⟨some 26, yt 23, .call 196 [(xt 25), (xi 0), (xi 16384)]⟩,⟨some 27, none, .pick (xt 23) (xt 26) (.c (.b false))⟩,oa 28 27,⟨some 29, yt 28, .fa 2 (xt 2)⟩,⟨some 30, yt 28, .ld (xt 29)⟩,⟨some 31, yt 28, .call 196 [(xt 30), (xi 0), (xi 16384)]⟩,⟨some 32, none, .pick (xt 28) (xt 31) (.c (.b false))⟩,oa 5 32])
 (.seq (.reg [of 33 3 2,ol 34 33,⟨some 35, none, .call 196 [(xt 34), (xi 0), (xi 65536)]⟩,oa 36 35,⟨some 37, yt 36, .fa 4 (xt 2)⟩,⟨some 38, yt 36, .ld (xt 37)⟩,⟨some 39, yt 36, .call 196 [(xt 38), (xi 0), (xi 65536)]⟩,⟨some 40, none, .pick (xt 36) (xt 39) (.c (.b false))⟩,oa 6 40])
 (.seq (.reg [of 41 5 2,ol 42 41,⟨some 43, none, .call 196 [(xt 42), (xi 0), (xi 65536)]⟩,oa 44 43,⟨some 45, yt 44, .fa 6 (xt 2)⟩,⟨some 46, yt 44, .ld (xt 45)⟩,⟨some 47, yt 44, .call 196 [(xt 46), (xi (-1)), (xi 1048576)]⟩,⟨some 48, none, .pick (xt 44) (xt 47) (.c (.b false))⟩,oa 7 48])
 (.seq (.reg [oa 49 5,oa 50 49,ot 51 50 6,⟨some 52, none, .pick (xt 50) (xt 51) (.c (.b false))⟩,oa 53 52,ot 54 53 7,⟨some 55, none, .pick (xt 53) (xt 54) (.c (.b false))⟩,oa 56 55,⟨some 57, yt 56, .fa 7 (xt 2)⟩,⟨some 58, yt 56, .ld (xt 57)⟩,⟨some 59, yt 56, .call 197 [(xt 58), (.c (.f 198 [] []))]⟩,⟨some 60, yt 56, .un .not (xt 59)⟩,⟨some 61, none, .pick (xt 56) (xt 60) (.c (.b false))⟩,oa 4 61])
 (.ret))))))
theorem fn149 : F 149 = .go 62 [.t 4] v149 := by rw [F, fnOf, Tryz.func149]; kernel_rfl

def v150 : VC :=
 .seq (.reg [⟨some 1, none, .box 8 (xt 0)⟩,oi 2 0])
 (.seq (.reg [of 3 7 1,ol 4 3,oz 5 4,⟨some 6, none, .bin .quo (xt 5) (xi 2)⟩,⟨some 7, none, .bin .sub (xt 6) (xi 1)⟩,oa 2 7])
 (.ret))
theorem fn150 : F 150 = .go 8 [.t 2] v150 := by rw [F, fnOf, Tryz.func150]; kernel_rfl

def v151 : VC :=
 .seq (.reg [⟨some 2, none, .box 8 (xt 0)⟩,⟨some 3, none, .box 8 (xt 1)⟩,⟨some 4, none, .mv (.c (.sl none 0 0 true))⟩,oi 5 0])
 (.seq (.seq (.regd [od 13 8 2,⟨some 14, none, .call 145 [(xt 13)]⟩,⟨some 15, none, .un .not (xt 14)⟩,oa 16 15,⟨some 17, yn 16, .ldn 8 (xt 3)⟩,⟨some 18, yn 16, .ldn 8 (xt 2)⟩,⟨some 19, yn 16, .call 150 [(xt 18)]⟩,⟨some 20, yn 16, .call 149 [(xt 17), (xt 19)]⟩,⟨some 21, yn 16, .un .not (xt 20)⟩,⟨some 22, none, .pick (xt 16) (.c (.b true)) (xt 21)⟩] [(4, 6)])
 (.cond (xt 22) (.seq (.reg [⟨some 4, none, .mv (.c (.sl none 0 0 true))⟩,oi 5 11])
 (.ret))
 (.skip)))
 (.seq (.regd [⟨some 6, none, .alloc 285 [z0, z0, z0, z0, z0, z0]⟩,⟨some 7, none, .alloc 285 [z0, z0, z0, z0, z0, z0]⟩,od 23 8 2,⟨some 24, none, .call 199 [(xt 23)]⟩,od 25 8 3,⟨some 26, none, .call 199 [(xt 25)]⟩,os 6 6 24,os 6 7 26] [(4, 3)])
 (.seq (.reg [⟨some 8, none, .mv (.c (.i .u64 0))⟩])
 (.seq (.reg [⟨some 9, none, .mv (.c (.sl none 0 0 true))⟩])
 (.seq (.seq (.reg [oi 27 0])
 (.blk 0 (.loop (.seq (.reg [⟨some 28, none, .bin .lss (xt 27) (xi 6)⟩])
 (.seq (.cond (xt 28) (.skip)
 (.exit 0))
 (.seq (.blk 1 (.seq (.reg [oa 29 27,oa 10 29])
 (.seq (.regd [oa 30 10,⟨some 31, none, .iaA 6 1 (xt 6) (xt 30)⟩,ol 32 31,oa 33 10,⟨some 34, none, .iaA 6 1 (xt 7) (xt 33)⟩,ol 35 34,ob 36 .neq 32 35] [])
 (.cond (xt 36) (.seq (.reg [oa 37 8,oa 38 10,⟨some 39, none, .bin .shl (.c (.i .u64 1)) (xt 38)⟩,ob 40 .or 37 39,oa 8 40])
 (.regd [oa 41 9,oa 42 10,⟨some 43, none, .iaA 6 1 (xt 7) (xt 42)⟩,ol 44 43,oa 45 10,⟨some 46, none, .iaA 6 1 (xt 6) (xt 45)⟩,ol 47 46,ob 48 .sub 44 47,⟨some 49, none, .call 200 [(xt 48)]⟩,⟨some 50, none, .app ⟨1, (some 5)⟩ 1 (xt 41) (xt 49)⟩,oa 9 50] []))
 (.skip)))))
 (.reg [⟨some 51, none, .bin .add (xt 27) (xi 1)⟩,oa 27 51])))))))
 (.seq (.reg [of 52 7 2,ol 53 52,of 54 7 3,ol 55 54,⟨some 56, none, .call 201 [(xt 53), (xt 55)]⟩,oa 11 56])
 (.seq (.seq (.reg [oa 57 11,⟨some 58, none, .ia 1 (xt 57) (xi 0)⟩,ol 59 58,⟨some 60, none, .bin .gtr (xt 59) (.c (.i .u8 0))⟩])
 (.cond (xt 60) (.seq (.reg [oa 61 8,⟨some 62, none, .bin .or (xt 61) (.c (.i .u64 64))⟩,oa 8 62])
 (.reg [oa 63 9,oa 64 11,⟨some 65, none, .app ⟨1, (some 5)⟩ 1 (xt 63) (xt 64)⟩,oa 9 65]))
 (.skip)))
 (.seq (.reg [of 66 0 3,ol 67 66,⟨some 68, none, .cvi .u64 (xt 67)⟩,⟨some 69, none, .call 105 [(xt 68)]⟩,oa 70 8,⟨some 71, none, .call 105 [(xt 70)]⟩,⟨some 72, none, .app ⟨1, (some 5)⟩ 1 (xt 69) (xt 71)⟩,oa 12 72])
 (.seq (.reg [oa 73 12,oa 74 9,⟨some 75, none, .app ⟨1, (some 5)⟩ 1 (xt 73) (xt 74)⟩,oa 4 75,oi 5 0])
 (.ret))))))))))
theorem fn151 : F 151 = .go 76 [.t 4, .t 5] v151 := by rw [F, fnOf, Tryz.func151]; kernel_rfl

def v152 : VC :=
 .seq (.reg [⟨some 4, none, .alloc 232 [z0, z0, z0, z0, z0, z0, z0, (.s ⟨#[]⟩), (.sl none 0 0 true), (.sl none 0 0 true), (.sl none 0 0 true)]⟩])
 (.seq (.reg [oa 7 0,oc 8 7,of 9 1 8,ol 10 9,oa 5 10])
 (.seq (.reg [oa 11 0,oa 12 1,⟨some 13, none, .call 202 [(xt 11), (xt 12)]⟩,⟨some 14, none, .bsl 11 1 [z0, z0, z0, z0, z0, z0, z0, (.s ⟨#[]⟩), (.sl none 0 0 true), (.sl none 0 0 true), (.sl none 0 0 true)] [(0, 11, (xt 13))]⟩,oa 6 14])
 (.seq (.blk 0 (.loop (.seq (.seq (.reg [oa 15 0,⟨some 16, none, .call 153 [(xt 15)]⟩,⟨some 17, none, .un .not (xt 16)⟩,oa 18 17,ot 19 18 0,ot 20 18 0,⟨some 21, yt 18, .nc (xt 20)⟩,⟨some 22, yt 18, .fa 1 (xt 21)⟩,⟨some 23, yt 18, .ld (xt 22)⟩,⟨some 24, yt 18, .call 203 [(xt 19), (xt 23)]⟩,⟨some 25, yt 18, .bin .eql (xt 24) (.c (.i .u8 124))⟩,⟨some 26, none, .pick (xt 18) (xt 25) (.c (.b false))⟩])
 (.cond (xt 26) (.skip)
 (.exit 0)))
 (.blk 1 (.seq (.reg [oa 27 0,oc 28 27,of 29 1 28,ol 30 29,⟨some 31, none, .bin .add (xt 30) (xi 1)⟩,oc 32 27,of 33 1 32,os 1 33 31])
 (.reg [oa 34 6,oa 35 0,oa 36 1,⟨some 37, none, .call 202 [(xt 35), (xt 36)]⟩,⟨some 38, none, .bsl 11 1 [z0, z0, z0, z0, z0, z0, z0, (.s ⟨#[]⟩), (.sl none 0 0 true), (.sl none 0 0 true), (.sl none 0 0 true)] [(0, 11, (xt 37))]⟩,⟨some 39, none, .app ⟨11, (some 232)⟩ 144 (xt 34) (xt 38)⟩,oa 6 39]))))))
 (.seq (.seq (.reg [oa 40 6,oz 41 40,⟨some 42, none, .bin .eql (xt 41) (xi 1)⟩])
 (.cond (xt 42) (.seq (.reg [oa 43 6,⟨some 44, none, .ia 11 (xt 43) (xi 0)⟩,od 45 11 44,os 11 4 45])
 (.ret))
 (.skip)))
 (.seq (.reg [oa 46 5,oa 47 0,oc 48 47,of 49 1 48,ol 50 49,⟨some 51, none, .build [z0, z0, z0, z0, z0, z0, z0, (.s ⟨#[]⟩), (.sl none 0 0 true), (.sl none 0 0 true)] [(0, 1, (xi 6)), (1, 1, (xt 46)), (2, 1, (xt 50))]⟩,oa 52 6,⟨some 53, none, .build [z0, z0, z0, z0, z0, z0, z0, (.s ⟨#[]⟩), (.sl none 0 0 true), (.sl none 0 0 true), (.sl none 0 0 true)] [(0, 10, (xt 51)), (10, 1, (xt 52))]⟩,os 11 4 53])
 (.ret))))))
theorem fn152 : F 152 = .go 54 [.c 4 (some 11)] v152 := by rw [F, fnOf, Tryz.func152]; kernel_rfl

def v153 : VC :=
 .seq (.reg [⟨some 2, none, .mv (.c (.b false))⟩])
 (.seq (.regd [oa 3 0,oc 4 3,of 5 8 4,ol 6 5,⟨some 7, none, .bin .neq (xt 6) (xi 0)⟩,oa 8 7,on 9 8 0,⟨some 10, yn 8, .nc (xt 9)⟩,⟨some 11, yn 8, .fa 1 (xt 10)⟩,⟨some 12, yn 8, .ld (xt 11)⟩,on 13 8 0,⟨some 14, yn 8, .nc (xt 13)⟩,⟨some 15, yn 8, .fa 0 (xt 14)⟩,⟨some 16, yn 8, .ld (xt 15)⟩,⟨some 17, yn 8, .len 1 (xt 16)⟩,⟨some 18, yn 8, .bin .geq (xt 12) (xt 17)⟩,⟨some 19, none, .pick (xt 8) (.c (.b true)) (xt 18)⟩,oa 2 19] [])
 (.ret))
theorem fn153 : F 153 = .go 20 [.t 2] v153 := by rw [F, fnOf, Tryz.func153]; kernel_rfl

def v155 : VC :=
 .seq (.reg [⟨some 2, none, .box 11 (xt 0)⟩,⟨some 4, none, .mv (.c (.sl none 0 0 true))⟩])
 (.seq (.reg [oa 9 1,oz 10 9,oa 5 10])
 (.seq (.reg [oa 11 1,of 12 0 2,od 13 10 12,⟨some 14, none, .bsl 10 1 [z0, z0, z0, z0, z0, z0, z0, (.s ⟨#[]⟩), (.sl none 0 0 true), (.sl none 0 0 true)] [(0, 10, (xt 13))]⟩,⟨some 15, none, .app ⟨10, (some 209)⟩ 120 (xt 11) (xt 14)⟩,oa 1 15])
 (.seq (.reg [⟨some 6, none, .mv (.c (.sl none 0 0 true))⟩])
 (.seq (.seq (.reg [of 16 10 2,ol 17 16,oz 18 17,oi 19 0])
 (.blk 0 (.loop (.seq (.reg [ob 20 .lss 19 18])
 (.seq (.cond (xt 20) (.skip)
 (.exit 0))
 (.seq (.blk 1 (.seq (.reg [⟨some 21, none, .ia 11 (xt 17) (xt 19)⟩,od 22 11 21,⟨some 8, none, .alloc 232 [z0, z0, z0, z0, z0, z0, z0, (.s ⟨#[]⟩), (.sl none 0 0 true), (.sl none 0 0 true), (.sl none 0 0 true)]⟩,os 11 8 22])
 (.seq (.reg [oa 23 6,oa 24 1,oz 25 24,⟨some 26, none, .bsl 1 1 [(.i .i64 0)] [(0, 1, (xt 25))]⟩,⟨some 27, none, .app ⟨1, (some 3)⟩ 8 (xt 23) (xt 26)⟩,oa 6 27])
 (.reg [od 28 11 8,oa 29 1,⟨some 30, none, .call 155 [(xt 28), (xt 29)]⟩,oa 1 30]))))
 (.reg [⟨some 31, none, .bin .add (xt 19) (xi 1)⟩,oa 19 31])))))))
 (.seq (.reg [oa 32 1,oa 33 5,oa 34 6,⟨some 35, none, .ia 10 (xt 32) (xt 33)⟩,of 36 9 35,os 1 36 34])
 (.seq (.reg [oa 37 1,oa 4 37])
 (.ret)))))))
theorem fn155 : F 155 = .go 38 [.t 4] v155 := by rw [F, fnOf, Tryz.func155]; kernel_rfl

def v156 : VC :=
 .seq (.reg [oi 4 0])
 (.seq (.seq (.reg [oa 6 0,oz 7 6,oi 8 0])
 (.blk 0 (.loop (.seq (.reg [ob 9 .lss 8 7])
 (.seq (.cond (xt 9) (.skip)
 (.exit 0))
 (.seq (.blk 1 (.seq (.reg [oa 10 8,oa 5 10])
 (.seq (.reg [oa 11 1,oa 12 0,oa 13 5,⟨some 14, none, .ia 1 (xt 12) (xt 13)⟩,ol 15 14,ob 16 .eql 11 15])
 (.cond (xt 16) (.seq (.reg [oa 17 5,oa 4 17])
 (.ret))
 (.skip)))))
 (.reg [⟨some 18, none, .bin .add (xt 8) (xi 1)⟩,oa 8 18])))))))
 (.seq (.reg [oi 4 (-1)])
 (.ret)))
theorem fn156 : F 156 = .go 19 [.t 4] v156 := by rw [F, fnOf, Tryz.func156]; kernel_rfl

def v157 : VC :=
 .seq (.reg [⟨some 3, none, .box 3 (xt 0)⟩,⟨some 4, none, .box 10 (xt 1)⟩,oi 6 0])
 (.seq (.blk 0 (.seq (.reg [of 9 0 4,ol 10 9,⟨some 11, none, .bin .eql (xt 10) (xi 4)⟩,oa 12 11,⟨some 13, yt 12, .fa 3 (xt 4)⟩,⟨some 14, yt 12, .ld (xt 13)⟩,⟨some 15, yt 12, .bin .lss (xt 14) (xi 1)⟩,ot 16 12 15,⟨some 17, yn 16, .fa 3 (xt 4)⟩,⟨some 18, yn 16, .ld (xt 17)⟩,⟨some 19, yn 16, .fa 1 (xt 3)⟩,⟨some 20, yn 16, .ld (xt 19)⟩,⟨some 21, yn 16, .bin .gtr (xt 18) (xt 20)⟩,⟨some 22, yt 12, .pick (xt 16) (.c (.b true)) (xt 21)⟩,⟨some 23, none, .pick (xt 12) (xt 22) (.c (.b false))⟩,oa 8 23])
 (.cond (xt 8) (.seq (.reg [oi 6 38])
 (.ret))
 (.seq (.reg [of 25 0 4,ol 26 25,⟨some 27, none, .bin .neq (xt 26) (xi 10)⟩,oa 28 27,⟨some 29, yn 28, .fa 3 (xt 4)⟩,⟨some 30, yn 28, .ld (xt 29)⟩,⟨some 31, yn 28, .bin .neq (xt 30) (xi 3)⟩,on 32 28 31,⟨some 33, yt 32, .fa 3 (xt 4)⟩,⟨some 34, yt 32, .ld (xt 33)⟩,⟨some 35, yt 32, .bin .neq (xt 34) (xi 4)⟩,⟨some 36, yn 28, .pick (xt 32) (xt 35) (.c (.b false))⟩,⟨some 37, none, .pick (xt 28) (.c (.b true)) (xt 36)⟩,oa 24 37])
 (.cond (xt 24) (.seq (.reg [oi 6 0])
 (.ret))
 (.skip))))))
 (.seq (.seq (.reg [oa 38 2,of 39 9 4,ol 40 39,⟨some 41, none, .ia 1 (xt 40) (xi 0)⟩,ol 42 41,⟨some 43, none, .ia 2 (xt 38) (xt 42)⟩,od 44 2 43,⟨some 7, none, .alloc 242 [z0, z0]⟩,os 2 7 44])
 (.seq (.reg [of 45 1 7,ol 46 45,⟨some 47, none, .bin .eql (xt 46) (xi (-1))⟩,oa 48 47,⟨some 49, yn 48, .fa 1 (xt 7)⟩,⟨some 50, yn 48, .ld (xt 49)⟩,⟨some 51, yn 48, .bin .gtr (xt 50) (xi 255)⟩,⟨some 52, none, .pick (xt 48) (.c (.b true)) (xt 51)⟩])
 (.cond (xt 52) (.seq (.reg [oi 6 41])
 (.ret))
 (.skip))))
 (.seq (.reg [oi 6 0])
 (.ret))))
theorem fn157 : F 157 = .go 53 [.t 6] v157 := by rw [F, fnOf, Tryz.func157]; kernel_rfl

def v158 : VC :=
 .seq (.reg [⟨some 1, none, .box 1 (xt 0)⟩,⟨some 2, none, .mv (.c .nf)⟩])
 (.seq (.reg [⟨some 3, none, .fnc 204 [] [(xt 1)]⟩,oa 2 3])
 (.ret))
theorem fn158 : F 158 = .go 4 [.t 2] v158 := by rw [F, fnOf, Tryz.func158]; kernel_rfl

def v159 : VC :=
 .seq (.reg [⟨some 2, none, .box 10 (xt 0)⟩,⟨some 4, none, .alloc 242 [z0, z0]⟩])
 (.seq (.seq (.reg [of 11 0 2,ol 12 11])
 (.blk 0 (.seq (.reg [⟨some 14, none, .bin .eql (xt 12) (xi 2)⟩,oa 13 14])
 (.cond (xt 13) (.seq (.reg [⟨some 15, none, .build [z0, z0] [(0, 1, (xi 1)), (1, 1, (xi 1))]⟩,os 2 4 15])
 (.ret))
 (.seq (.reg [⟨some 17, none, .bin .eql (xt 12) (xi 4)⟩,oa 16 17])
 (.cond (xt 16) (.seq (.reg [⟨some 18, none, .build [z0, z0] [(0, 1, (xi 0)), (1, 1, (xi (-1)))]⟩,os 2 4 18])
 (.ret))
 (.seq (.seq (.reg [⟨some 20, none, .bin .eql (xt 12) (xi 7)⟩,oa 19 20])
 (.cond (xt 19) (.skip)
 (.reg [⟨some 21, none, .bin .eql (xt 12) (xi 9)⟩,oa 19 21])))
 (.cond (xt 19) (.seq (.reg [oa 22 1,of 23 9 2,ol 24 23,⟨some 25, none, .ia 1 (xt 24) (xi 0)⟩,ol 26 25,⟨some 27, none, .ia 2 (xt 22) (xt 26)⟩,od 28 2 27,os 2 4 28])
 (.ret))
 (.seq (.reg [⟨some 30, none, .bin .eql (xt 12) (xi 8)⟩,oa 29 30])
 (.cond (xt 29) (.seq (.regd [oa 31 1,of 32 9 2,ol 33 32,⟨some 34, none, .ia 1 (xt 33) (xi 0)⟩,ol 35 34,⟨some 36, none, .ia 2 (xt 31) (xt 35)⟩,od 37 2 36,of 38 4 2,ol 39 38,of 40 5 2,ol 41 40,⟨some 42, none, .call 206 [(xt 37), (xt 39), (xt 41)]⟩,os 2 4 42] [])
 (.ret))
 (.seq (.reg [⟨some 44, none, .bin .eql (xt 12) (xi 5)⟩,oa 43 44])
 (.cond (xt 43) (.seq (.reg [⟨some 5, none, .alloc 242 [z0, z0]⟩])
 (.seq (.seq (.reg [of 45 9 2,ol 46 45,oz 47 46,oi 48 0])
 (.blk 1 (.loop (.seq (.reg [ob 49 .lss 48 47])
 (.seq (.cond (xt 49) (.skip)
 (.exit 1))
 (.seq (.blk 2 (.seq (.reg [⟨some 50, none, .ia 1 (xt 46) (xt 48)⟩,ol 51 50,oa 7 51])
 (.regd [od 52 2 5,oa 53 1,oa 54 7,⟨some 55, none, .ia 2 (xt 53) (xt 54)⟩,od 56 2 55,⟨some 57, none, .call 207 [(xt 52), (xt 56)]⟩,os 2 5 57] [])))
 (.reg [⟨some 58, none, .bin .add (xt 48) (xi 1)⟩,oa 48 58])))))))
 (.seq (.reg [od 59 2 5,os 2 4 59])
 (.ret))))
 (.seq (.reg [⟨some 61, none, .bin .eql (xt 12) (xi 6)⟩,oa 60 61])
 (.cond (xt 60) (.seq (.reg [oa 62 1,of 63 9 2,ol 64 63,⟨some 65, none, .ia 1 (xt 64) (xi 0)⟩,ol 66 65,⟨some 67, none, .ia 2 (xt 62) (xt 66)⟩,od 68 2 67,⟨some 8, none, .alloc 242 [z0, z0]⟩,os 2 8 68])
 (.seq (.seq (.reg [of 69 9 2,ol 70 69,⟨some 71, none, .slc 1 (xt 70) (some (xi 1)) none none⟩,oz 72 71,oi 73 0])
 (.blk 3 (.loop (.seq (.reg [ob 74 .lss 73 72])
 (.seq (.cond (xt 74) (.skip)
 (.exit 3))
 (.seq (.blk 4 (.seq (.reg [⟨some 75, none, .ia 1 (xt 71) (xt 73)⟩,ol 76 75,oa 10 76])
 (.regd [od 77 2 8,oa 78 1,oa 79 10,⟨some 80, none, .ia 2 (xt 78) (xt 79)⟩,od 81 2 80,⟨some 82, none, .call 208 [(xt 77), (xt 81)]⟩,os 2 8 82] [])))
 (.reg [⟨some 83, none, .bin .add (xt 73) (xi 1)⟩,oa 73 83])))))))
 (.seq (.reg [od 84 2 8,os 2 4 84])
 (.ret))))
 (.skip)))))))))))))))
 (.seq (.reg [⟨some 85, none, .build [z0, z0] []⟩,os 2 4 85])
 (.ret)))
theorem fn159 : F 159 = .go 86 [.c 4 (some 2)] v159 := by rw [F, fnOf, Tryz.func159]; kernel_rfl

def v161 : VC :=
 .seq (.reg [⟨some 5, none, .box 10 (xt 2)⟩])
 (.seq (.reg [oa 10 0,oc 11 10,of 12 0 11,of 13 2 12,ol 14 13,oz 15 14,oa 6 15])
 (.seq (.regd [oa 16 0,oa 17 0,oc 18 17,of 19 0 18,of 20 2 19,ol 21 20,of 22 4 5,ol 23 22,of 24 5 5,ol 25 24,of 26 6 5,ol 27 26,⟨some 28, none, .build [z0, z0, z0] [(0, 1, (xt 23)), (1, 1, (xt 25)), (2, 1, (xt 27))]⟩,⟨some 29, none, .bsl 3 1 [z0, z0, z0] [(0, 3, (xt 28))]⟩,⟨some 30, none, .app ⟨3, (some 248)⟩ 24 (xt 21) (xt 29)⟩,oc 31 16,of 32 0 31,of 33 2 32,os 1 33 30] [(5, 13)])
 (.seq (.reg [oa 34 0,oa 35 1,oa 36 6,⟨some 37, none, .call 114 [(xt 34), (xt 35), (xi 7), (xt 36), (xi 0), (xi 0)]⟩])
 (.seq (.reg [oa 38 0,oa 39 1,oa 40 6,⟨some 41, none, .call 114 [(xt 38), (xt 39), (xi 8), (xt 40), (xi 0), (xi 0)]⟩,oa 7 41])
 (.seq (.reg [oi 8 (-1)])
 (.seq (.seq (.reg [of 42 6 5,ol 43 42,⟨some 44, none, .bin .eql (xt 43) (xi 1)⟩])
 (.cond (xt 44) (.reg [oa 45 0,oa 46 1,⟨some 47, none, .call 209 [(xt 45), (xt 46), (xi 1)]⟩])
 (.seq (.reg [oa 48 0,oa 49 1,⟨some 50, none, .call 209 [(xt 48), (xt 49), (xi 2)]⟩])
 (.reg [oa 51 0,oa 52 1,⟨some 53, none, .call 114 [(xt 51), (xt 52), (xi 6), (xi 0), (xi 0), (xi 0)]⟩,oa 8 53]))))
 (.seq (.reg [oa 54 0,oa 55 1,oa 56 6,⟨some 57, none, .call 114 [(xt 54), (xt 55), (xi 9), (xt 56), (xi 0), (xi 0)]⟩,oa 9 57])
 (.seq (.reg [oa 58 0,oc 59 58,of 60 0 59,of 61 0 60,ol 62 61,oa 63 7,oa 64 9,⟨some 65, none, .ia 6 (xt 62) (xt 63)⟩,of 66 3 65,os 1 66 64])
 (.seq (.reg [oa 67 0,of 68 9 5,ol 69 68,⟨some 70, none, .ia 1 (xt 69) (xi 0)⟩,ol 71 70,⟨some 72, none, .call 113 [(xt 67), (xt 71)]⟩])
 (.seq (.reg [oa 73 0,oa 74 1,oa 75 6,oa 76 7,⟨some 77, none, .call 114 [(xt 73), (xt 74), (xi 10), (xt 75), (xt 76), (xi 0)]⟩])
 (.seq (.regd [oa 78 0,oc 79 78,of 80 0 79,of 81 0 80,ol 82 81,oa 83 7,oa 84 0,⟨some 85, none, .call 164 [(xt 84)]⟩,⟨some 86, none, .ia 6 (xt 82) (xt 83)⟩,of 87 2 86,os 1 87 85] [(4, 7)])
 (.seq (.reg [oa 88 8,⟨some 89, none, .bin .neq (xt 88) (xi (-1))⟩])
 (.cond (xt 89) (.regd [oa 90 0,oc 91 90,of 92 0 91,of 93 0 92,ol 94 93,oa 95 8,oa 96 0,⟨some 97, none, .call 164 [(xt 96)]⟩,⟨some 98, none, .ia 6 (xt 94) (xt 95)⟩,of 99 1 98,os 1 99 97] [(4, 7)])
 (.skip))))))))))))))
theorem fn161 : F 161 = .go 100 [] v161 := by rw [F, fnOf, Tryz.func161]; kernel_rfl

def v163 : VC :=
 .seq (.reg [⟨some 5, none, .box 10 (xt 2)⟩])
 (.seq (.reg [of 6 0 5,ol 7 6])
 (.blk 0 (.seq (.reg [⟨some 9, none, .bin .eql (xt 7) (xi 2)⟩,oa 8 9])
 (.cond (xt 8) (.seq (.regd [oa 10 0,oa 11 0,oc 12 11,of 13 0 12,of 14 1 13,ol 15 14,of 16 8 5,ol 17 16,⟨some 18, none, .bsl 1 1 [(.sl none 0 0 true)] [(0, 1, (xt 17))]⟩,⟨some 19, none, .app ⟨1, (some 207)⟩ 24 (xt 15) (xt 18)⟩,oc 20 10,of 21 0 20,of 22 1 21,os 1 22 19] [(5, 8)])
 (.reg [oa 23 0,oa 24 1,oa 25 0,oc 26 25,of 27 0 26,of 28 1 27,ol 29 28,oz 30 29,⟨some 31, none, .bin .sub (xt 30) (xi 1)⟩,⟨some 32, none, .call 114 [(xt 23), (xt 24), (xi 1), (xt 31), (xi 0), (xi 0)]⟩]))
 (.seq (.reg [⟨some 34, none, .bin .eql (xt 7) (xi 3)⟩,oa 33 34])
 (.cond (xt 33) (.reg [oa 35 0,oa 36 1,of 37 3 5,ol 38 37,⟨some 39, none, .call 114 [(xt 35), (xt 36), (xi 2), (xt 38), (xi 0), (xi 0)]⟩])
 (.seq (.reg [⟨some 41, none, .bin .eql (xt 7) (xi 4)⟩,oa 40 41])
 (.cond (xt 40) (.reg [oa 42 0,oa 43 1,of 44 3 5,ol 45 44,of 46 6 5,ol 47 46,⟨some 48, none, .call 114 [(xt 42), (xt 43), (xi 3), (xt 45), (xt 47), (xi 0)]⟩])
 (.skip)))))))))
theorem fn163 : F 163 = .go 49 [] v163 := by rw [F, fnOf, Tryz.func163]; kernel_rfl

def v164 : VC :=
 .seq (.reg [oi 2 0])
 (.seq (.reg [oa 3 0,oc 4 3,of 5 0 4,of 6 0 5,ol 7 6,oz 8 7,oa 2 8])
 (.ret))
theorem fn164 : F 164 = .go 9 [.t 2] v164 := by rw [F, fnOf, Tryz.func164]; kernel_rfl

def v165 : VC :=
 .seq (.reg [⟨some 6, none, .mv (.c (.b false))⟩])
 (.seq (.reg [oa 7 0,oa 8 1,ob 9 .geq 7 8,oa 10 9,ot 11 10 0,ot 12 10 2,⟨some 13, yt 10, .bin .leq (xt 11) (xt 12)⟩,⟨some 14, none, .pick (xt 10) (xt 13) (.c (.b false))⟩,oa 6 14])
 (.ret))
theorem fn165 : F 165 = .go 15 [.t 6] v165 := by rw [F, fnOf, Tryz.func165]; kernel_rfl

def v166 : VC :=
 .seq (.reg [⟨some 2, none, .mv (.c (.b false))⟩])
 (.seq (.reg [oa 3 0,oa 4 0,⟨some 5, none, .call 211 [(xt 4)]⟩,⟨some 6, none, .call 210 [(xt 3), (xt 5)]⟩,oa 2 6])
 (.ret))
theorem fn166 : F 166 = .go 7 [.t 2] v166 := by rw [F, fnOf, Tryz.func166]; kernel_rfl

def v167 : VC :=
 .seq (.reg [⟨some 1, none, .box 3 (xt 0)⟩,⟨some 2, none, .mv (.c (.b false))⟩])
 (.seq (.reg [of 4 0 1,ol 5 4,⟨some 6, none, .bin .geq (xt 5) (xi 0)⟩,oa 7 6,⟨some 8, yt 7, .fa 0 (xt 1)⟩,⟨some 9, yt 7, .ld (xt 8)⟩,⟨some 10, yt 7, .bin .leq (xt 9) (xi 1000)⟩,⟨some 11, none, .pick (xt 7) (xt 10) (.c (.b false))⟩,oa 12 11,⟨some 13, yt 12, .fa 2 (xt 1)⟩,⟨some 14, yt 12, .ld (xt 13)⟩,⟨some 15, yt 12, .bin .geq (xt 14) (xi 0)⟩,⟨some 16, none, .pick (xt 12) (xt 15) (.c (.b false))⟩,oa 17 16,⟨some 18, yt 17, .fa 2 (xt 1)⟩,⟨some 19, yt 17, .ld (xt 18)⟩,⟨some 20, yt 17, .bin .leq (xt 19) (xi 1)⟩,⟨some 21, none, .pick (xt 17) (xt 20) (.c (.b false))⟩,oa 3 21])
 (.seq (.reg [oa 22 3,oa 23 22,⟨some 24, yt 23, .fa 1 (xt 1)⟩,⟨some 25, yt 23, .ld (xt 24)⟩,⟨some 26, yt 23, .bin .eql (xt 25) (xi (-1))⟩,ot 27 23 26,⟨some 28, yn 27, .fa 1 (xt 1)⟩,⟨some 29, yn 27, .ld (xt 28)⟩,⟨some 30, yn 27, .bin .geq (xt 29) (xi 1)⟩,on 31 27 30,⟨some 32, yt 31, .fa 1 (xt 1)⟩,⟨some 33, yt 31, .ld (xt 32)⟩,⟨some 34, yt 31, .fa 0 (xt 1)⟩,⟨some 35, yt 31, .ld (xt 34)⟩,⟨some 36, yt 31, .bin .geq (xt 33) (xt 35)⟩,⟨some 37, yn 27, .pick (xt 31) (xt 36) (.c (.b false))⟩,on 38 27 37,⟨some 39, yt 38, .fa 1 (xt 1)⟩,⟨some 40, yt 38, .ld (xt 39)⟩,⟨some 41, yt 38, .bin .leq (xt 40) (xi 1000)⟩,⟨some 42, yn 27, .pick (xt 38) (xt 41) (.c (.b false))⟩,⟨some 43, yt 23, .pick (xt 27) (.c (.b true)) (xt 42)⟩,⟨some 44, none, .pick (xt 23) (xt 43) (.c (.b false))⟩,oa 2 44])
 (.ret)))
theorem fn167 : F 167 = .go 45 [.t 2] v167 := by rw [F, fnOf, Tryz.func167]; kernel_rfl

def v168 : VC :=
 .seq (.reg [⟨some 3, none, .box 4 (xt 0)⟩,⟨some 5, none, .box 6 (xt 2)⟩,⟨some 6, none, .mv (.c (.b false))⟩])
 (.seq (.seq (.reg [of 7 0 5,ol 8 7])
 (.blk 0 (.seq (.reg [⟨some 10, none, .bin .eql (xt 8) (xi 1)⟩,oa 9 10])
 (.cond (xt 9) (.seq (.reg [of 11 1 5,ol 12 11,of 13 1 3,ol 14 13,oz 15 14,⟨some 16, none, .bin .sub (xt 15) (xi 1)⟩,⟨some 17, none, .call 165 [(xt 12), (xi 0), (xt 16)]⟩,oa 18 17,⟨some 19, yt 18, .fa 2 (xt 5)⟩,⟨some 20, yt 18, .ld (xt 19)⟩,⟨some 21, yt 18, .bin .eql (xt 20) (xi 0)⟩,⟨some 22, none, .pick (xt 18) (xt 21) (.c (.b false))⟩,oa 23 22,⟨some 24, yt 23, .fa 3 (xt 5)⟩,⟨some 25, yt 23, .ld (xt 24)⟩,⟨some 26, yt 23, .bin .eql (xt 25) (xi 0)⟩,⟨some 27, none, .pick (xt 23) (xt 26) (.c (.b false))⟩,oa 6 27])
 (.ret))
 (.seq (.reg [⟨some 29, none, .bin .eql (xt 8) (xi 2)⟩,oa 28 29])
 (.cond (xt 28) (.seq (.reg [of 30 1 5,ol 31 30,⟨some 32, none, .call 165 [(xt 31), (xi 1), (xi 7)]⟩,oa 33 32,⟨some 34, yt 33, .fa 2 (xt 5)⟩,⟨some 35, yt 33, .ld (xt 34)⟩,⟨some 36, yt 33, .bin .eql (xt 35) (xi 0)⟩,⟨some 37, none, .pick (xt 33) (xt 36) (.c (.b false))⟩,oa 38 37,⟨some 39, yt 38, .fa 3 (xt 5)⟩,⟨some 40, yt 38, .ld (xt 39)⟩,⟨some 41, yt 38, .bin .eql (xt 40) (xi 0)⟩,⟨some 42, none, .pick (xt 38) (xt 41) (.c (.b false))⟩,oa 6 42])
 (.ret))
 (.seq (.reg [⟨some 44, none, .bin .eql (xt 8) (xi 3)⟩,oa 43 44])
 (.cond (xt 43) (.seq (.reg [of 45 1 5,ol 46 45,of 47 3 3,ol 48 47,⟨some 49, none, .call 165 [(xt 46), (xi 1), (xt 48)]⟩,oa 50 49,⟨some 51, yt 50, .fa 2 (xt 5)⟩,⟨some 52, yt 50, .ld (xt 51)⟩,⟨some 53, yt 50, .call 165 [(xt 52), (xi 0), (xi 1)]⟩,⟨some 54, none, .pick (xt 50) (xt 53) (.c (.b false))⟩,oa 55 54,⟨some 56, yt 55, .fa 3 (xt 5)⟩,⟨some 57, yt 55, .ld (xt 56)⟩,⟨some 58, yt 55, .bin .eql (xt 57) (xi 0)⟩,⟨some 59, none, .pick (xt 55) (xt 58) (.c (.b false))⟩,oa 6 59])
 (.ret))
 (.seq (.seq (.reg [⟨some 61, none, .bin .eql (xt 8) (xi 11)⟩,oa 60 61])
 (.cond (xt 60) (.skip)
 (.reg [⟨some 62, none, .bin .eql (xt 8) (xi 12)⟩,oa 60 62])))
 (.cond (xt 60) (.seq (.reg [of 63 1 5,ol 64 63,of 65 3 3,ol 66 65,⟨some 67, none, .call 165 [(xt 64), (xi 1), (xt 66)]⟩,oa 68 67,⟨some 69, yt 68, .fa 2 (xt 5)⟩,⟨some 70, yt 68, .ld (xt 69)⟩,⟨some 71, yt 68, .bin .eql (xt 70) (xi 0)⟩,⟨some 72, none, .pick (xt 68) (xt 71) (.c (.b false))⟩,oa 73 72,⟨some 74, yt 73, .fa 3 (xt 5)⟩,⟨some 75, yt 73, .ld (xt 74)⟩,⟨some 76, yt 73, .bin .eql (xt 75) (xi 0)⟩,⟨some 77, none, .pick (xt 73) (xt 76) (.c (.b false))⟩,oa 6 77])
 (.ret))
 (.seq (.seq (.reg [⟨some 79, none, .bin .eql (xt 8) (xi 7)⟩,oa 78 79])
 (.cond (xt 78) (.skip)
 (.reg [⟨some 80, none, .bin .eql (xt 8) (xi 9)⟩,oa 78 80])))
 (.cond (xt 78) (.seq (.reg [of 81 1 5,ol 82 81,of 83 2 3,ol 84 83,oz 85 84,⟨some 86, none, .bin .sub (xt 85) (xi 1)⟩,⟨some 87, none, .call 165 [(xt 82), (xi 0), (xt 86)]⟩,oa 88 87,⟨some 89, yt 88, .fa 2 (xt 5)⟩,⟨some 90, yt 88, .ld (xt 89)⟩,⟨some 91, yt 88, .bin .eql (xt 90) (xi 0)⟩,⟨some 92, none, .pick (xt 88) (xt 91) (.c (.b false))⟩,oa 93 92,⟨some 94, yt 93, .fa 3 (xt 5)⟩,⟨some 95, yt 93, .ld (xt 94)⟩,⟨some 96, yt 93, .bin .eql (xt 95) (xi 0)⟩,⟨some 97, none, .pick (xt 93) (xt 96) (.c (.b false))⟩,oa 6 97])
 (.ret))
 (.seq (.reg [⟨some 99, none, .bin .eql (xt 8) (xi 14)⟩,oa 98 99])
 (.cond (xt 98) (.seq (.reg [of 100 1 5,ol 101 100,of 102 2 5,ol 103 102,⟨some 104, none, .call 165 [(xt 101), (xi 0), (xt 103)]⟩,oa 105 104,⟨some 106, yt 105, .fa 2 (xt 5)⟩,⟨some 107, yt 105, .ld (xt 106)⟩,⟨some 108, yt 105, .bin .leq (xt 107) (xi 255)⟩,⟨some 109, none, .pick (xt 105) (xt 108) (.c (.b false))⟩,oa 110 109,⟨some 111, yt 110, .fa 3 (xt 5)⟩,⟨some 112, yt 110, .ld (xt 111)⟩,⟨some 113, yt 110, .bin .eql (xt 112) (xi 0)⟩,⟨some 114, none, .pick (xt 110) (xt 113) (.c (.b false))⟩,oa 6 114])
 (.ret))
 (.skip)))))))))))))))
 (.seq (.reg [od 115 4 3,oa 116 1,od 117 6 5,⟨some 118, none, .call 212 [(xt 115), (xt 116), (xt 117)]⟩,oa 6 118])
 (.ret)))
theorem fn168 : F 168 = .go 119 [.t 6] v168 := by rw [F, fnOf, Tryz.func168]; kernel_rfl

def v169 : VC :=
 .seq (.reg [⟨some 1, none, .box 4 (xt 0)⟩,⟨some 2, none, .mv (.c (.b false))⟩])
 (.seq (.reg [⟨some 10, none, .mkm⟩,⟨none, none, .mup .i (xt 10) (xi 0) (xi 0)⟩,oa 11 10,oa 3 11])
 (.seq (.seq (.reg [⟨some 12, none, .bsl 1 1 [(.i .i64 0)] [(0, 1, (xi 0))]⟩,oa 4 12])
 (.blk 0 (.loop (.seq (.seq (.reg [oa 13 4,oz 14 13,⟨some 15, none, .bin .gtr (xt 14) (xi 0)⟩])
 (.cond (xt 15) (.skip)
 (.exit 0)))
 (.blk 1 (.seq (.reg [oa 16 4,oa 17 4,oz 18 17,⟨some 19, none, .bin .sub (xt 18) (xi 1)⟩,⟨some 20, none, .ia 1 (xt 16) (xt 19)⟩,ol 21 20,oa 5 21])
 (.seq (.reg [oa 22 4,oa 23 4,oz 24 23,⟨some 25, none, .bin .sub (xt 24) (xi 1)⟩,⟨some 26, none, .slc 1 (xt 22) none (some (xt 25)) none⟩,oa 4 26])
 (.seq (.seq (.regd [of 27 0 1,ol 28 27,oa 29 5,⟨some 30, none, .ia 6 (xt 28) (xt 29)⟩,od 31 6 30,oa 32 3,oa 33 5,⟨some 34, none, .lkp .i (.i .i64 0) false (xt 32) (xt 33)⟩,⟨some 35, none, .call 213 [(xt 31), (xt 34)]⟩,⟨some 36, none, .un .not (xt 35)⟩] [(1, 7), (4, 7)])
 (.cond (xt 36) (.seq (.reg [⟨some 2, none, .mv (.c (.b false))⟩])
 (.ret))
 (.skip)))
 (.seq (.regd [oa 37 5,of 38 0 1,ol 39 38,oa 40 5,⟨some 41, none, .ia 6 (xt 39) (xt 40)⟩,od 42 6 41,oa 43 3,oa 44 5,⟨some 45, none, .lkp .i (.i .i64 0) false (xt 43) (xt 44)⟩,⟨some 46, none, .call 214 [(xt 37), (xt 42), (xt 45)]⟩,oz 47 46,oi 48 0] [(2, 8), (5, 8)])
 (.blk 2 (.loop (.seq (.reg [ob 49 .lss 48 47])
 (.seq (.cond (xt 49) (.skip)
 (.exit 2))
 (.seq (.blk 3 (.seq (.reg [⟨some 50, none, .ia 2 (xt 46) (xt 48)⟩,od 51 2 50,⟨some 7, none, .alloc 302 [z0, z0]⟩,os 2 7 51])
 (.seq (.reg [oa 53 3,of 54 0 7,ol 55 54,⟨some 56, none, .lkp .i (.i .i64 0) true (xt 53) (xt 55)⟩,oa 52 56,oe 57 52 0,oe 58 52 1,oa 8 57,oa 9 58])
 (.seq (.seq (.reg [oa 59 9,oa 60 59,ot 61 60 8,⟨some 62, yt 60, .fa 1 (xt 7)⟩,⟨some 63, yt 60, .ld (xt 62)⟩,⟨some 64, yt 60, .bin .neq (xt 61) (xt 63)⟩,⟨some 65, none, .pick (xt 60) (xt 64) (.c (.b false))⟩])
 (.cond (xt 65) (.seq (.reg [⟨some 2, none, .mv (.c (.b false))⟩])
 (.ret))
 (.skip)))
 (.seq (.reg [oa 66 9,⟨some 67, none, .un .not (xt 66)⟩])
 (.cond (xt 67) (.seq (.reg [oa 68 3,of 69 0 7,ol 70 69,of 71 1 7,ol 72 71,⟨none, none, .mup .i (xt 68) (xt 70) (xt 72)⟩])
 (.reg [oa 73 4,of 74 0 7,ol 75 74,⟨some 76, none, .bsl 1 1 [(.i .i64 0)] [(0, 1, (xt 75))]⟩,⟨some 77, none, .app ⟨1, (some 3)⟩ 8 (xt 73) (xt 76)⟩,oa 4 77]))
 (.skip)))))))
 (.reg [⟨some 78, none, .bin .add (xt 48) (xi 1)⟩,oa 48 78])))))))))))))))
 (.seq (.reg [⟨some 2, none, .mv (.c (.b true))⟩])
 (.ret))))
theorem fn169 : F 169 = .go 79 [.t 2] v169 := by rw [F, fnOf, Tryz.func169]; kernel_rfl

def v170 : VC :=
 .seq (.reg [⟨some 4, none, .mv (.c (.sl none 0 0 true))⟩])
 (.seq (.seq (.reg [oa 9 1,⟨some 10, none, .bin .lss (xt 9) (xi 0)⟩])
 (.cond (xt 10) (.reg [⟨some 11, none, .mif 9 (.c (.s ⟨#[99, 97, 110, 110, 111, 116, 32, 98, 101, 32, 110, 101, 103, 97, 116, 105, 118, 101]⟩))⟩,⟨none, none, .bad⟩])
 (.skip)))
 (.seq (.reg [oa 13 0,oz 14 13,⟨some 15, none, .cvi .u64 (xt 14)⟩,oa 16 1,⟨some 17, none, .cvi .u64 (xt 16)⟩,⟨some 18, none, .call 215 [(xt 15), (xt 17)]⟩,oa 12 18,oe 19 12 0,oe 20 12 1,oa 5 19,oa 6 20])
 (.seq (.seq (.reg [oa 21 5,⟨some 22, none, .bin .gtr (xt 21) (.c (.i .u64 0))⟩,oa 23 22,on 24 23 6,⟨some 25, yn 23, .bin .gtr (xt 24) (.c (.i .u64 9223372036854775807))⟩,⟨some 26, none, .pick (xt 23) (.c (.b true)) (xt 25)⟩])
 (.cond (xt 26) (.reg [⟨some 27, none, .mif 9 (.c (.s ⟨#[116, 104, 101, 32, 114, 101, 115, 117, 108, 116, 32, 111, 102, 32, 40, 108, 101, 110, 40, 120, 41, 32, 42, 32, 99, 111, 117, 110, 116, 41, 32, 111, 118, 101, 114, 102, 108, 111, 119, 115]⟩))⟩,⟨none, none, .bad⟩])
 (.skip)))
 (.seq (.reg [oa 28 6,⟨some 29, none, .cvi .i64 (xt 28)⟩,⟨some 30, none, .mks 1 8 [(.i .i64 0)] (xt 29) (xt 29)⟩,oa 7 30])
 (.seq (.reg [oa 31 7,oa 32 0,⟨some 33, none, .cpy 1 (xt 31) (xt 32)⟩,oa 8 33])
 (.seq (.blk 0 (.loop (.seq (.seq (.reg [oa 34 8,oa 35 7,oz 36 35,ob 37 .lss 34 36])
 (.cond (xt 37) (.skip)
 (.exit 0)))
 (.blk 1 (.regd [oa 38 8,oa 39 7,oa 40 8,⟨some 41, none, .slc 1 (xt 39) (some (xt 40)) none none⟩,oa 42 7,oa 43 8,⟨some 44, none, .slc 1 (xt 42) none (some (xt 43)) none⟩,⟨some 45, none, .cpy 1 (xt 41) (xt 44)⟩,ob 46 .add 38 45,oa 8 46] [])))))
 (.seq (.reg [oa 47 7,oa 4 47])
 (.ret))))))))
theorem fn170 : F 170 = .go 48 [.t 4] v170 := by rw [F, fnOf, Tryz.func170]; kernel_rfl

def v171 : VC :=
 .seq (.reg [oi 4 0])
 (.seq (.reg [oa 5 0,oa 6 0,oc 7 6,of 8 0 7,of 9 3 8,ol 10 9,⟨some 11, none, .bin .add (xt 10) (xi 1)⟩,⟨some 12, none, .call 216 [(xt 5), (xt 11)]⟩,oa 13 1,ob 14 .add 12 13,oa 4 14])
 (.ret))
theorem fn171 : F 171 = .go 15 [.t 4] v171 := by rw [F, fnOf, Tryz.func171]; kernel_rfl

def v172 : VC :=
 .seq (.reg [oa 6 0,oc 7 6,of 8 9 7,ol 9 8,⟨some 10, none, .call 217 [(xt 9)]⟩,oa 5 10,oe 11 5 0,oe 12 5 1,⟨some 2, none, .alloc 307 [(.b false), z0, z0, z0, z0, z0]⟩,os 6 2 11,oa 3 12])
 (.seq (.seq (.reg [oa 13 3,⟨some 14, none, .un .not (xt 13)⟩])
 (.cond (xt 14) (.seq (.reg [oa 15 0,⟨some 16, none, .call 218 [(xt 15)]⟩])
 (.ret))
 (.skip)))
 (.seq (.regd [oa 17 0,oc 18 17,of 19 8 18,ol 20 19,of 21 3 2,ol 22 21,⟨some 23, none, .call 219 [(xt 20), (xt 22)]⟩] [])
 (.seq (.regd [oa 24 0,oa 25 0,of 26 1 2,ol 27 26,of 28 2 2,ol 29 28,oc 30 24,of 31 10 30,os 1 31 27,oc 32 25,of 33 11 32,os 1 33 29] [(5, 8)])
 (.seq (.regd [⟨some 4, none, .alloc 46 [z0, z0, z0, z0, z0, z0]⟩,oa 34 0,oc 35 34,of 36 0 35,of 37 0 36,ol 38 37,of 39 1 2,ol 40 39,⟨some 41, none, .ia 6 (xt 38) (xt 40)⟩,od 42 6 41,os 6 4 42] [])
 (.blk 0 (.seq (.reg [of 76 0 2,ol 77 76,oa 75 77])
 (.cond (xt 75) (.reg [oa 78 0,od 79 6 4,od 80 6 2,⟨some 81, none, .call 220 [(xt 78), (xt 79), (xt 80)]⟩])
 (.seq (.reg [of 83 0 4,ol 84 83,⟨some 85, none, .bin .eql (xt 84) (xi 14)⟩,oa 82 85])
 (.cond (xt 82) (.seq (.reg [oa 86 0,oc 87 86,of 88 15 87,⟨none, none, .st 1 (xt 88) (.c (.b false))⟩])
 (.reg [oa 89 0,od 90 6 4,of 91 5 2,ol 92 91,of 93 4 2,ol 94 93,⟨some 95, none, .call 221 [(xt 89), (xt 90), (xt 92), (xi 7), (xt 94)]⟩]))
 (.seq (.reg [oa 43 0,oc 44 43,of 45 15 44,⟨none, none, .st 1 (xt 45) (.c (.b false))⟩])
 (.seq (.seq (.reg [of 46 1 4,ol 47 46,⟨some 48, none, .bin .neq (xt 47) (xi (-1))⟩])
 (.cond (xt 48) (.regd [oa 49 0,of 50 1 4,ol 51 50,oa 52 0,oc 53 52,of 54 11 53,ol 55 54,of 56 4 2,ol 57 56,⟨some 58, none, .build [(.b false), z0, z0, z0, z0, z0] [(1, 1, (xt 51)), (2, 1, (xt 55)), (4, 1, (xt 57))]⟩,⟨some 59, none, .call 222 [(xt 49), (xt 58)]⟩] [])
 (.skip)))
 (.seq (.reg [oa 60 0,of 61 4 4,ol 62 61,of 63 5 4,ol 64 63,of 65 4 2,ol 66 65,⟨some 67, none, .call 223 [(xt 60), (xi 7), (xt 62), (xt 64), (xt 66)]⟩])
 (.reg [oa 68 0,oc 69 68,of 70 10 69,ol 71 70,⟨some 72, none, .bin .add (xt 71) (xi 1)⟩,oc 73 68,of 74 10 73,os 1 74 72])))))))))))))
theorem fn172 : F 172 = .go 96 [] v172 := by rw [F, fnOf, Tryz.func172]; kernel_rfl

def v173 : VC :=
 .seq (.regd [⟨some 2, none, .alloc 46 [z0, z0, z0, z0, z0, z0]⟩,oa 7 0,oc 8 7,of 9 0 8,of 10 0 9,ol 11 10,oa 12 0,oc 13 12,of 14 10 13,ol 15 14,⟨some 16, none, .ia 6 (xt 11) (xt 15)⟩,od 17 6 16,os 6 2 17] [])
 (.seq (.reg [of 18 0 2,ol 19 18])
 (.blk 0 (.seq (.reg [⟨some 24, none, .bin .eql (xt 19) (xi 1)⟩,oa 23 24])
 (.cond (xt 23) (.regd [oa 25 0,oa 26 0,oc 27 26,of 28 11 27,ol 29 28,⟨some 30, none, .bin .add (xt 29) (xi 1)⟩,oa 31 0,oc 32 31,of 33 4 32,od 34 1 33,oa 35 0,oc 36 35,of 37 11 36,ol 38 37,oa 39 0,oc 40 39,of 41 0 40,of 42 1 41,ol 43 42,of 44 1 2,ol 45 44,⟨some 46, none, .ia 1 (xt 43) (xt 45)⟩,ol 47 46,⟨some 48, none, .call 225 [(xt 34), (xt 38), (xt 47)]⟩,od 49 6 2,⟨some 50, none, .call 224 [(xt 25), (xt 30), (xt 48), (xt 49)]⟩] [(4, 23), (24, 23)])
 (.seq (.reg [⟨some 52, none, .bin .eql (xt 19) (xi 2)⟩,oa 51 52])
 (.cond (xt 51) (.regd [oa 53 0,oa 54 0,oc 55 54,of 56 4 55,od 57 1 56,of 58 1 2,ol 59 58,oa 60 0,oc 61 60,of 62 11 61,ol 63 62,⟨some 64, none, .call 227 [(xt 57), (xt 59), (xt 63)]⟩,od 65 6 2,⟨some 66, none, .call 226 [(xt 53), (xt 64), (xt 65)]⟩] [(12, 11)])
 (.seq (.reg [⟨some 68, none, .bin .eql (xt 19) (xi 3)⟩,oa 67 68])
 (.cond (xt 67) (.seq (.reg [oa 70 0,od 71 6 2,⟨some 72, none, .call 228 [(xt 70), (xt 71)]⟩,oa 69 72,oe 73 69 0,oe 74 69 1,oa 3 73,oa 4 74])
 (.reg [oa 75 0,oa 76 3,oa 77 4,od 78 6 2,⟨some 79, none, .call 224 [(xt 75), (xt 76), (xt 77), (xt 78)]⟩]))
 (.seq (.reg [⟨some 81, none, .bin .eql (xt 19) (xi 4)⟩,oa 80 81])
 (.cond (xt 80) (.seq (.regd [oa 82 0,of 83 1 2,ol 84 83,oa 85 0,oc 86 85,of 87 11 86,ol 88 87,oa 89 0,oc 90 89,of 91 13 90,ol 92 91,⟨some 93, none, .build [(.b false), z0, z0, z0, z0, z0] [(1, 1, (xt 84)), (2, 1, (xt 88)), (4, 1, (xt 92))]⟩,⟨some 94, none, .call 222 [(xt 82), (xt 93)]⟩] [])
 (.cond (xt 94) (.seq (.reg [oa 95 0,oc 96 95,of 97 10 96,ol 98 97,⟨some 99, none, .bin .add (xt 98) (xi 1)⟩,oc 100 95,of 101 10 100,os 1 101 99])
 (.reg [oa 102 0,of 103 4 2,ol 104 103,⟨some 105, none, .call 223 [(xt 102), (xi 6), (xt 104), (xi 0), (xi (-1))]⟩]))
 (.skip)))
 (.seq (.reg [⟨some 107, none, .bin .eql (xt 19) (xi 5)⟩,oa 106 107])
 (.cond (xt 106) (.reg [oa 108 0,oc 109 108,of 110 10 109,ol 111 110,⟨some 112, none, .bin .add (xt 111) (xi 1)⟩,oc 113 108,of 114 10 113,os 1 114 112])
 (.seq (.reg [⟨some 116, none, .bin .eql (xt 19) (xi 6)⟩,oa 115 116])
 (.cond (xt 115) (.reg [oa 117 0,of 118 1 2,ol 119 118,oc 120 117,of 121 10 120,os 1 121 119])
 (.seq (.reg [⟨some 123, none, .bin .eql (xt 19) (xi 11)⟩,oa 122 123])
 (.cond (xt 122) (.seq (.regd [oa 124 0,oc 125 124,of 126 8 125,ol 127 126,oa 128 0,of 129 1 2,ol 130 129,⟨some 131, none, .call 216 [(xt 128), (xt 130)]⟩,oa 132 0,oc 133 132,of 134 11 133,ol 135 134,⟨some 136, none, .call 229 [(xt 127), (xt 131), (xt 135)]⟩] [(3, 7), (11, 7)])
 (.seq (.reg [oa 137 0,oc 138 137,of 139 10 138,ol 140 139,⟨some 141, none, .bin .add (xt 140) (xi 1)⟩,oc 142 137,of 143 10 142,os 1 143 141])
 (.reg [oa 144 0,of 145 4 2,ol 146 145,⟨some 147, none, .call 223 [(xt 144), (xi 8), (xt 146), (xi 0), (xi (-1))]⟩])))
 (.seq (.reg [⟨some 149, none, .bin .eql (xt 19) (xi 12)⟩,oa 148 149])
 (.cond (xt 148) (.seq (.regd [oa 151 0,oc 152 151,of 153 8 152,ol 154 153,oa 155 0,of 156 1 2,ol 157 156,⟨some 158, none, .call 216 [(xt 155), (xt 157)]⟩,⟨some 159, none, .call 230 [(xt 154), (xt 158)]⟩,oa 150 159,oe 160 150 0,oe 161 150 1,oa 5 160,oa 6 161] [(3, 7)])
 (.seq (.reg [oa 162 0,of 163 1 2,ol 164 163,oa 165 5,⟨some 166, none, .call 231 [(xt 162), (xt 164), (xt 165)]⟩])
 (.seq (.reg [oa 167 0,oc 168 167,of 169 10 168,ol 170 169,⟨some 171, none, .bin .add (xt 170) (xi 1)⟩,oc 172 167,of 173 10 172,os 1 173 171])
 (.reg [oa 174 0,of 175 4 2,ol 176 175,⟨some 177, none, .call 223 [(xt 174), (xi 9), (xt 176), (xi 0), (xi (-1))]⟩]))))
 (.seq (.reg [⟨some 179, none, .bin .eql (xt 19) (xi 19)⟩,oa 178 179])
 (.cond (xt 178) (.seq (.reg [oa 180 0,oa 181 0,oc 182 181,of 183 12 182,ol 184 183,⟨some 185, none, .call 231 [(xt 180), (xi 0), (xt 184)]⟩])
 (.seq (.reg [oa 186 0,oc 187 186,of 188 14 187,⟨none, none, .st 1 (xt 188) (xi 1)⟩])
 (.reg [oa 189 0,of 190 4 2,ol 191 190,⟨some 192, none, .call 223 [(xt 189), (xi 13), (xt 191), (xi 0), (xi (-1))]⟩])))
 (.seq (.seq (.reg [⟨some 194, none, .bin .eql (xt 19) (xi 7)⟩,oa 193 194])
 (.cond (xt 193) (.skip)
 (.seq (.reg [⟨some 195, none, .bin .eql (xt 19) (xi 8)⟩,oa 193 195])
 (.cond (xt 193) (.skip)
 (.seq (.reg [⟨some 196, none, .bin .eql (xt 19) (xi 9)⟩,oa 193 196])
 (.cond (xt 193) (.skip)
 (.reg [⟨some 197, none, .bin .eql (xt 19) (xi 10)⟩,oa 193 197])))))))
 (.cond (xt 193) (.reg [oa 198 0,od 199 6 2,⟨some 200, none, .call 232 [(xt 198), (xt 199)]⟩])
 (.reg [oa 20 0,od 21 6 2,⟨some 22, none, .call 233 [(xt 20), (xt 21)]⟩])))))))))))))))))))))))
theorem fn173 : F 173 = .go 201 [] v173 := by rw [F, fnOf, Tryz.func173]; kernel_rfl

end Go.Proofs.YtjlckbphpmogjaaGreatDoor
