/- The functions of the program as the interpreter's code, part 1; each is what the program's text gives. No condition. -/
import Derived.Test.YtnbdamdcmofafaaGreatDoorProg
import Derived.Test.YtnbdamdcmofafaaGreatDoorQuVE
import Derived.KernelRfl
namespace Go.Proofs.YtnbdamdcmofafaaGreatDoor
open Go.Vi

/-- clew/well.of -/
def v168 : VC :=
.seq (.reg [⟨some 2, none, .box 10 (.t 0)⟩,
 ⟨some 4, none, .alloc 257 [(.i .i64 0), (.i .i64 0)]⟩])
 (.seq (.seq (.reg [⟨some 11, none, .fa 0 (.t 2)⟩,
 ⟨some 12, none, .ld (.t 11)⟩])
 (.blk 0 (.seq (.reg [⟨some 14, none, .bin .eql (.t 12) (.c (.i .i64 2))⟩,
 ⟨some 13, none, .mv (.t 14)⟩])
 (.cond (.t 13) (.seq (.reg [⟨some 15, none, .build [(.i .i64 0), (.i .i64 0)] [(0, 1, (.c (.i .i64 1))), (1, 1, (.c (.i .i64 1)))]⟩,
 ⟨none, none, .st 2 (.t 4) (.t 15)⟩])
 (.ret))
 (.seq (.reg [⟨some 17, none, .bin .eql (.t 12) (.c (.i .i64 4))⟩,
 ⟨some 16, none, .mv (.t 17)⟩])
 (.cond (.t 16) (.seq (.reg [⟨some 18, none, .build [(.i .i64 0), (.i .i64 0)] [(0, 1, (.c (.i .i64 0))), (1, 1, (.c (.i .i64 (-1))))]⟩,
 ⟨none, none, .st 2 (.t 4) (.t 18)⟩])
 (.ret))
 (.seq (.seq (.reg [⟨some 20, none, .bin .eql (.t 12) (.c (.i .i64 7))⟩,
 ⟨some 19, none, .mv (.t 20)⟩])
 (.cond (.t 19) (.skip)
 (.reg [⟨some 21, none, .bin .eql (.t 12) (.c (.i .i64 9))⟩,
 ⟨some 19, none, .mv (.t 21)⟩])))
 (.cond (.t 19) (.seq (.reg [⟨some 22, none, .mv (.t 1)⟩,
 ⟨some 23, none, .fa 9 (.t 2)⟩,
 ⟨some 24, none, .ld (.t 23)⟩,
 ⟨some 25, none, .ia 1 (.t 24) (.c (.i .i64 0))⟩,
 ⟨some 26, none, .ld (.t 25)⟩,
 ⟨some 27, none, .ia 2 (.t 22) (.t 26)⟩,
 ⟨some 28, none, .ldn 2 (.t 27)⟩,
 ⟨none, none, .st 2 (.t 4) (.t 28)⟩])
 (.ret))
 (.seq (.reg [⟨some 30, none, .bin .eql (.t 12) (.c (.i .i64 8))⟩,
 ⟨some 29, none, .mv (.t 30)⟩])
 (.cond (.t 29) (.seq (.regd [⟨some 31, none, .mv (.t 1)⟩,
 ⟨some 32, none, .fa 9 (.t 2)⟩,
 ⟨some 33, none, .ld (.t 32)⟩,
 ⟨some 34, none, .ia 1 (.t 33) (.c (.i .i64 0))⟩,
 ⟨some 35, none, .ld (.t 34)⟩,
 ⟨some 36, none, .ia 2 (.t 31) (.t 35)⟩,
 ⟨some 37, none, .ldn 2 (.t 36)⟩,
 ⟨some 38, none, .fa 4 (.t 2)⟩,
 ⟨some 39, none, .ld (.t 38)⟩,
 ⟨some 40, none, .fa 5 (.t 2)⟩,
 ⟨some 41, none, .ld (.t 40)⟩,
 ⟨some 42, none, .call 201 [(.t 37), (.t 39), (.t 41)]⟩,
 ⟨none, none, .st 2 (.t 4) (.t 42)⟩] [])
 (.ret))
 (.seq (.reg [⟨some 44, none, .bin .eql (.t 12) (.c (.i .i64 5))⟩,
 ⟨some 43, none, .mv (.t 44)⟩])
 (.cond (.t 43) (.seq (.reg [⟨some 5, none, .alloc 257 [(.i .i64 0), (.i .i64 0)]⟩])
 (.seq (.seq (.reg [⟨some 45, none, .fa 9 (.t 2)⟩,
 ⟨some 46, none, .ld (.t 45)⟩,
 ⟨some 47, none, .len 1 (.t 46)⟩,
 ⟨some 48, none, .mv (.c (.i .i64 0))⟩])
 (.blk 1 (.loop (.seq (.reg [⟨some 49, none, .bin .lss (.t 48) (.t 47)⟩])
 (.seq (.cond (.t 49) (.skip)
 (.exit 1))
 (.seq (.blk 2 (.seq (.reg [⟨some 50, none, .ia 1 (.t 46) (.t 48)⟩,
 ⟨some 51, none, .ld (.t 50)⟩,
 ⟨some 7, none, .mv (.t 51)⟩])
 (.regd [⟨some 52, none, .ldn 2 (.t 5)⟩,
 ⟨some 53, none, .mv (.t 1)⟩,
 ⟨some 54, none, .mv (.t 7)⟩,
 ⟨some 55, none, .ia 2 (.t 53) (.t 54)⟩,
 ⟨some 56, none, .ldn 2 (.t 55)⟩,
 ⟨some 57, none, .call 202 [(.t 52), (.t 56)]⟩,
 ⟨none, none, .st 2 (.t 5) (.t 57)⟩] [])))
 (.reg [⟨some 58, none, .bin .add (.t 48) (.c (.i .i64 1))⟩,
 ⟨some 48, none, .mv (.t 58)⟩])))))))
 (.seq (.reg [⟨some 59, none, .ldn 2 (.t 5)⟩,
 ⟨none, none, .st 2 (.t 4) (.t 59)⟩])
 (.ret))))
 (.seq (.reg [⟨some 61, none, .bin .eql (.t 12) (.c (.i .i64 6))⟩,
 ⟨some 60, none, .mv (.t 61)⟩])
 (.cond (.t 60) (.seq (.reg [⟨some 62, none, .mv (.t 1)⟩,
 ⟨some 63, none, .fa 9 (.t 2)⟩,
 ⟨some 64, none, .ld (.t 63)⟩,
 ⟨some 65, none, .ia 1 (.t 64) (.c (.i .i64 0))⟩,
 ⟨some 66, none, .ld (.t 65)⟩,
 ⟨some 67, none, .ia 2 (.t 62) (.t 66)⟩,
 ⟨some 68, none, .ldn 2 (.t 67)⟩,
 ⟨some 8, none, .alloc 257 [(.i .i64 0), (.i .i64 0)]⟩,
 ⟨none, none, .st 2 (.t 8) (.t 68)⟩])
 (.seq (.seq (.reg [⟨some 69, none, .fa 9 (.t 2)⟩,
 ⟨some 70, none, .ld (.t 69)⟩,
 ⟨some 71, none, .slc 1 (.t 70) (some (.c (.i .i64 1))) none none⟩,
 ⟨some 72, none, .len 1 (.t 71)⟩,
 ⟨some 73, none, .mv (.c (.i .i64 0))⟩])
 (.blk 3 (.loop (.seq (.reg [⟨some 74, none, .bin .lss (.t 73) (.t 72)⟩])
 (.seq (.cond (.t 74) (.skip)
 (.exit 3))
 (.seq (.blk 4 (.seq (.reg [⟨some 75, none, .ia 1 (.t 71) (.t 73)⟩,
 ⟨some 76, none, .ld (.t 75)⟩,
 ⟨some 10, none, .mv (.t 76)⟩])
 (.regd [⟨some 77, none, .ldn 2 (.t 8)⟩,
 ⟨some 78, none, .mv (.t 1)⟩,
 ⟨some 79, none, .mv (.t 10)⟩,
 ⟨some 80, none, .ia 2 (.t 78) (.t 79)⟩,
 ⟨some 81, none, .ldn 2 (.t 80)⟩,
 ⟨some 82, none, .call 203 [(.t 77), (.t 81)]⟩,
 ⟨none, none, .st 2 (.t 8) (.t 82)⟩] [])))
 (.reg [⟨some 83, none, .bin .add (.t 73) (.c (.i .i64 1))⟩,
 ⟨some 73, none, .mv (.t 83)⟩])))))))
 (.seq (.reg [⟨some 84, none, .ldn 2 (.t 8)⟩,
 ⟨none, none, .st 2 (.t 4) (.t 84)⟩])
 (.ret))))
 (.skip)))))))))))))))
 (.seq (.reg [⟨some 85, none, .build [(.i .i64 0), (.i .i64 0)] []⟩,
 ⟨none, none, .st 2 (.t 4) (.t 85)⟩])
 (.ret)))
theorem fn168 : fnOf Tryz.prog Tryz.prog.globals.size ext 168 = .go 86 [.c 4 (some 2)] v168 := by rw [fnOf, Tryz.func168]; kernel_rfl

/-- (*clew/comp.maker).alt -/
def v169 : VC :=
.seq (.reg [⟨some 12, none, .mv (.t 0)⟩,
 ⟨some 13, none, .mv (.t 1)⟩,
 ⟨some 14, none, .call 125 [(.t 12), (.t 13), (.c (.i .i64 4)), (.c (.i .i64 0)), (.c (.i .i64 0)), (.c (.i .i64 0))]⟩,
 ⟨some 6, none, .mv (.t 14)⟩])
 (.seq (.reg [⟨some 7, none, .mv (.c (.sl none 0 0 true))⟩])
 (.seq (.seq (.reg [⟨some 15, none, .mv (.t 2)⟩,
 ⟨some 16, none, .len 1 (.t 15)⟩,
 ⟨some 17, none, .mv (.c (.i .i64 0))⟩])
 (.blk 0 (.loop (.seq (.reg [⟨some 18, none, .bin .lss (.t 17) (.t 16)⟩])
 (.seq (.cond (.t 18) (.skip)
 (.exit 0))
 (.seq (.blk 1 (.seq (.reg [⟨some 19, none, .mv (.t 17)⟩,
 ⟨some 20, none, .ia 1 (.t 15) (.t 17)⟩,
 ⟨some 21, none, .ld (.t 20)⟩,
 ⟨some 8, none, .mv (.t 19)⟩,
 ⟨some 9, none, .mv (.t 21)⟩])
 (.seq (.reg [⟨some 22, none, .mv (.t 0)⟩,
 ⟨some 23, none, .mv (.t 9)⟩,
 ⟨some 24, none, .call 124 [(.t 22), (.t 23)]⟩])
 (.seq (.seq (.reg [⟨some 25, none, .mv (.t 8)⟩,
 ⟨some 26, none, .mv (.t 2)⟩,
 ⟨some 27, none, .len 1 (.t 26)⟩,
 ⟨some 28, none, .bin .sub (.t 27) (.c (.i .i64 1))⟩,
 ⟨some 29, none, .bin .eql (.t 25) (.t 28)⟩])
 (.cond (.t 29) (.exit 0)
 (.skip)))
 (.seq (.reg [⟨some 30, none, .mv (.t 7)⟩,
 ⟨some 31, none, .mv (.t 0)⟩,
 ⟨some 32, none, .mv (.t 1)⟩,
 ⟨some 33, none, .call 125 [(.t 31), (.t 32), (.c (.i .i64 6)), (.c (.i .i64 0)), (.c (.i .i64 0)), (.c (.i .i64 0))]⟩,
 ⟨some 34, none, .bsl 1 1 [(.i .i64 0)] [(0, 1, (.t 33))]⟩,
 ⟨some 35, none, .app ⟨1, (some 3)⟩ 8 (.t 30) (.t 34)⟩,
 ⟨some 7, none, .mv (.t 35)⟩])
 (.seq (.regd [⟨some 36, none, .mv (.t 0)⟩,
 ⟨some 37, none, .nc (.t 36)⟩,
 ⟨some 38, none, .fa 0 (.t 37)⟩,
 ⟨some 39, none, .fa 0 (.t 38)⟩,
 ⟨some 40, none, .ld (.t 39)⟩,
 ⟨some 41, none, .mv (.t 6)⟩,
 ⟨some 42, none, .mv (.t 0)⟩,
 ⟨some 43, none, .call 173 [(.t 42)]⟩,
 ⟨some 44, none, .ia 6 (.t 40) (.t 41)⟩,
 ⟨some 45, none, .fa 1 (.t 44)⟩,
 ⟨none, none, .st 1 (.t 45) (.t 43)⟩] [(4, 7)])
 (.reg [⟨some 46, none, .mv (.t 0)⟩,
 ⟨some 47, none, .mv (.t 1)⟩,
 ⟨some 48, none, .mv (.t 8)⟩,
 ⟨some 49, none, .bin .add (.t 48) (.c (.i .i64 1))⟩,
 ⟨some 50, none, .call 204 [(.t 46), (.t 47), (.t 49)]⟩,
 ⟨some 6, none, .mv (.t 50)⟩])))))))
 (.reg [⟨some 51, none, .bin .add (.t 17) (.c (.i .i64 1))⟩,
 ⟨some 17, none, .mv (.t 51)⟩])))))))
 (.seq (.reg [⟨some 52, none, .mv (.t 7)⟩,
 ⟨some 53, none, .len 1 (.t 52)⟩,
 ⟨some 54, none, .mv (.c (.i .i64 0))⟩])
 (.blk 2 (.loop (.seq (.reg [⟨some 55, none, .bin .lss (.t 54) (.t 53)⟩])
 (.seq (.cond (.t 55) (.skip)
 (.exit 2))
 (.seq (.blk 3 (.seq (.reg [⟨some 56, none, .ia 1 (.t 52) (.t 54)⟩,
 ⟨some 57, none, .ld (.t 56)⟩,
 ⟨some 11, none, .mv (.t 57)⟩])
 (.regd [⟨some 58, none, .mv (.t 0)⟩,
 ⟨some 59, none, .nc (.t 58)⟩,
 ⟨some 60, none, .fa 0 (.t 59)⟩,
 ⟨some 61, none, .fa 0 (.t 60)⟩,
 ⟨some 62, none, .ld (.t 61)⟩,
 ⟨some 63, none, .mv (.t 11)⟩,
 ⟨some 64, none, .mv (.t 0)⟩,
 ⟨some 65, none, .call 173 [(.t 64)]⟩,
 ⟨some 66, none, .ia 6 (.t 62) (.t 63)⟩,
 ⟨some 67, none, .fa 1 (.t 66)⟩,
 ⟨none, none, .st 1 (.t 67) (.t 65)⟩] [(4, 7)])))
 (.reg [⟨some 68, none, .bin .add (.t 54) (.c (.i .i64 1))⟩,
 ⟨some 54, none, .mv (.t 68)⟩])))))))))
theorem fn169 : fnOf Tryz.prog Tryz.prog.globals.size ext 169 = .go 69 [] v169 := by rw [fnOf, Tryz.func169]; kernel_rfl

/-- (*clew/comp.maker).repeat -/
def v170 : VC :=
.seq (.reg [⟨some 5, none, .box 10 (.t 2)⟩])
 (.seq (.reg [⟨some 10, none, .mv (.t 0)⟩,
 ⟨some 11, none, .nc (.t 10)⟩,
 ⟨some 12, none, .fa 0 (.t 11)⟩,
 ⟨some 13, none, .fa 2 (.t 12)⟩,
 ⟨some 14, none, .ld (.t 13)⟩,
 ⟨some 15, none, .len 1 (.t 14)⟩,
 ⟨some 6, none, .mv (.t 15)⟩])
 (.seq (.regd [⟨some 16, none, .mv (.t 0)⟩,
 ⟨some 17, none, .mv (.t 0)⟩,
 ⟨some 18, none, .nc (.t 17)⟩,
 ⟨some 19, none, .fa 0 (.t 18)⟩,
 ⟨some 20, none, .fa 2 (.t 19)⟩,
 ⟨some 21, none, .ld (.t 20)⟩,
 ⟨some 22, none, .fa 4 (.t 5)⟩,
 ⟨some 23, none, .ld (.t 22)⟩,
 ⟨some 24, none, .fa 5 (.t 5)⟩,
 ⟨some 25, none, .ld (.t 24)⟩,
 ⟨some 26, none, .fa 6 (.t 5)⟩,
 ⟨some 27, none, .ld (.t 26)⟩,
 ⟨some 28, none, .build [(.i .i64 0), (.i .i64 0), (.i .i64 0)] [(0, 1, (.t 23)), (1, 1, (.t 25)), (2, 1, (.t 27))]⟩,
 ⟨some 29, none, .bsl 3 1 [(.i .i64 0), (.i .i64 0), (.i .i64 0)] [(0, 3, (.t 28))]⟩,
 ⟨some 30, none, .app ⟨3, (some 60)⟩ 24 (.t 21) (.t 29)⟩,
 ⟨some 31, none, .nc (.t 16)⟩,
 ⟨some 32, none, .fa 0 (.t 31)⟩,
 ⟨some 33, none, .fa 2 (.t 32)⟩,
 ⟨none, none, .st 1 (.t 33) (.t 30)⟩] [(5, 13)])
 (.seq (.reg [⟨some 34, none, .mv (.t 0)⟩,
 ⟨some 35, none, .mv (.t 1)⟩,
 ⟨some 36, none, .mv (.t 6)⟩,
 ⟨some 37, none, .call 125 [(.t 34), (.t 35), (.c (.i .i64 7)), (.t 36), (.c (.i .i64 0)), (.c (.i .i64 0))]⟩])
 (.seq (.reg [⟨some 38, none, .mv (.t 0)⟩,
 ⟨some 39, none, .mv (.t 1)⟩,
 ⟨some 40, none, .mv (.t 6)⟩,
 ⟨some 41, none, .call 125 [(.t 38), (.t 39), (.c (.i .i64 8)), (.t 40), (.c (.i .i64 0)), (.c (.i .i64 0))]⟩,
 ⟨some 7, none, .mv (.t 41)⟩])
 (.seq (.reg [⟨some 8, none, .mv (.c (.i .i64 (-1)))⟩])
 (.seq (.seq (.reg [⟨some 42, none, .fa 6 (.t 5)⟩,
 ⟨some 43, none, .ld (.t 42)⟩,
 ⟨some 44, none, .bin .eql (.t 43) (.c (.i .i64 1))⟩])
 (.cond (.t 44) (.reg [⟨some 45, none, .mv (.t 0)⟩,
 ⟨some 46, none, .mv (.t 1)⟩,
 ⟨some 47, none, .call 204 [(.t 45), (.t 46), (.c (.i .i64 1))]⟩])
 (.seq (.reg [⟨some 48, none, .mv (.t 0)⟩,
 ⟨some 49, none, .mv (.t 1)⟩,
 ⟨some 50, none, .call 204 [(.t 48), (.t 49), (.c (.i .i64 2))]⟩])
 (.reg [⟨some 51, none, .mv (.t 0)⟩,
 ⟨some 52, none, .mv (.t 1)⟩,
 ⟨some 53, none, .call 125 [(.t 51), (.t 52), (.c (.i .i64 6)), (.c (.i .i64 0)), (.c (.i .i64 0)), (.c (.i .i64 0))]⟩,
 ⟨some 8, none, .mv (.t 53)⟩]))))
 (.seq (.reg [⟨some 54, none, .mv (.t 0)⟩,
 ⟨some 55, none, .mv (.t 1)⟩,
 ⟨some 56, none, .mv (.t 6)⟩,
 ⟨some 57, none, .call 125 [(.t 54), (.t 55), (.c (.i .i64 9)), (.t 56), (.c (.i .i64 0)), (.c (.i .i64 0))]⟩,
 ⟨some 9, none, .mv (.t 57)⟩])
 (.seq (.reg [⟨some 58, none, .mv (.t 0)⟩,
 ⟨some 59, none, .nc (.t 58)⟩,
 ⟨some 60, none, .fa 0 (.t 59)⟩,
 ⟨some 61, none, .fa 0 (.t 60)⟩,
 ⟨some 62, none, .ld (.t 61)⟩,
 ⟨some 63, none, .mv (.t 7)⟩,
 ⟨some 64, none, .mv (.t 9)⟩,
 ⟨some 65, none, .ia 6 (.t 62) (.t 63)⟩,
 ⟨some 66, none, .fa 3 (.t 65)⟩,
 ⟨none, none, .st 1 (.t 66) (.t 64)⟩])
 (.seq (.reg [⟨some 67, none, .mv (.t 0)⟩,
 ⟨some 68, none, .fa 9 (.t 5)⟩,
 ⟨some 69, none, .ld (.t 68)⟩,
 ⟨some 70, none, .ia 1 (.t 69) (.c (.i .i64 0))⟩,
 ⟨some 71, none, .ld (.t 70)⟩,
 ⟨some 72, none, .call 124 [(.t 67), (.t 71)]⟩])
 (.seq (.reg [⟨some 73, none, .mv (.t 0)⟩,
 ⟨some 74, none, .mv (.t 1)⟩,
 ⟨some 75, none, .mv (.t 6)⟩,
 ⟨some 76, none, .mv (.t 7)⟩,
 ⟨some 77, none, .call 125 [(.t 73), (.t 74), (.c (.i .i64 10)), (.t 75), (.t 76), (.c (.i .i64 0))]⟩])
 (.seq (.regd [⟨some 78, none, .mv (.t 0)⟩,
 ⟨some 79, none, .nc (.t 78)⟩,
 ⟨some 80, none, .fa 0 (.t 79)⟩,
 ⟨some 81, none, .fa 0 (.t 80)⟩,
 ⟨some 82, none, .ld (.t 81)⟩,
 ⟨some 83, none, .mv (.t 7)⟩,
 ⟨some 84, none, .mv (.t 0)⟩,
 ⟨some 85, none, .call 173 [(.t 84)]⟩,
 ⟨some 86, none, .ia 6 (.t 82) (.t 83)⟩,
 ⟨some 87, none, .fa 2 (.t 86)⟩,
 ⟨none, none, .st 1 (.t 87) (.t 85)⟩] [(4, 7)])
 (.seq (.reg [⟨some 88, none, .mv (.t 8)⟩,
 ⟨some 89, none, .bin .neq (.t 88) (.c (.i .i64 (-1)))⟩])
 (.cond (.t 89) (.regd [⟨some 90, none, .mv (.t 0)⟩,
 ⟨some 91, none, .nc (.t 90)⟩,
 ⟨some 92, none, .fa 0 (.t 91)⟩,
 ⟨some 93, none, .fa 0 (.t 92)⟩,
 ⟨some 94, none, .ld (.t 93)⟩,
 ⟨some 95, none, .mv (.t 8)⟩,
 ⟨some 96, none, .mv (.t 0)⟩,
 ⟨some 97, none, .call 173 [(.t 96)]⟩,
 ⟨some 98, none, .ia 6 (.t 94) (.t 95)⟩,
 ⟨some 99, none, .fa 1 (.t 98)⟩,
 ⟨none, none, .st 1 (.t 99) (.t 97)⟩] [(4, 7)])
 (.skip))))))))))))))
theorem fn170 : fnOf Tryz.prog Tryz.prog.globals.size ext 170 = .go 100 [] v170 := by rw [fnOf, Tryz.func170]; kernel_rfl

/-- (*clew/comp.maker).look -/
def v171 : VC :=
.seq (.reg [⟨some 5, none, .box 10 (.t 2)⟩])
 (.seq (.reg [⟨some 9, none, .mv (.t 0)⟩,
 ⟨some 10, none, .mv (.t 1)⟩,
 ⟨some 11, none, .call 125 [(.t 9), (.t 10), (.c (.i .i64 13)), (.c (.i .i64 (-1))), (.c (.i .i64 0)), (.c (.i .i64 0))]⟩,
 ⟨some 6, none, .mv (.t 11)⟩])
 (.seq (.reg [⟨some 12, none, .fa 3 (.t 5)⟩,
 ⟨some 13, none, .ld (.t 12)⟩,
 ⟨some 14, none, .bin .eql (.t 13) (.c (.i .i64 3))⟩,
 ⟨some 15, none, .mv (.t 14)⟩,
 ⟨some 16, some (15, false), .fa 3 (.t 5)⟩,
 ⟨some 17, some (15, false), .ld (.t 16)⟩,
 ⟨some 18, some (15, false), .bin .eql (.t 17) (.c (.i .i64 4))⟩,
 ⟨some 19, none, .pick (.t 15) (.c (.b true)) (.t 18)⟩,
 ⟨some 7, none, .mv (.t 19)⟩])
 (.seq (.seq (.reg [⟨some 20, none, .mv (.t 7)⟩])
 (.cond (.t 20) (.seq (.regd [⟨some 8, none, .alloc 257 [(.i .i64 0), (.i .i64 0)]⟩,
 ⟨some 21, none, .mv (.t 0)⟩,
 ⟨some 22, none, .nc (.t 21)⟩,
 ⟨some 23, none, .fa 7 (.t 22)⟩,
 ⟨some 24, none, .ld (.t 23)⟩,
 ⟨some 25, none, .fa 9 (.t 5)⟩,
 ⟨some 26, none, .ld (.t 25)⟩,
 ⟨some 27, none, .ia 1 (.t 26) (.c (.i .i64 0))⟩,
 ⟨some 28, none, .ld (.t 27)⟩,
 ⟨some 29, none, .ia 2 (.t 24) (.t 28)⟩,
 ⟨some 30, none, .ldn 2 (.t 29)⟩,
 ⟨none, none, .st 2 (.t 8) (.t 30)⟩] [])
 (.reg [⟨some 31, none, .mv (.t 0)⟩,
 ⟨some 32, none, .mv (.t 1)⟩,
 ⟨some 33, none, .fa 0 (.t 8)⟩,
 ⟨some 34, none, .ld (.t 33)⟩,
 ⟨some 35, none, .fa 1 (.t 8)⟩,
 ⟨some 36, none, .ld (.t 35)⟩,
 ⟨some 37, none, .call 125 [(.t 31), (.t 32), (.c (.i .i64 14)), (.t 34), (.t 36), (.c (.i .i64 0))]⟩]))
 (.skip)))
 (.seq (.reg [⟨some 38, none, .mv (.t 0)⟩,
 ⟨some 39, none, .fa 9 (.t 5)⟩,
 ⟨some 40, none, .ld (.t 39)⟩,
 ⟨some 41, none, .ia 1 (.t 40) (.c (.i .i64 0))⟩,
 ⟨some 42, none, .ld (.t 41)⟩,
 ⟨some 43, none, .call 124 [(.t 38), (.t 42)]⟩])
 (.seq (.seq (.reg [⟨some 44, none, .mv (.t 7)⟩])
 (.cond (.t 44) (.reg [⟨some 45, none, .mv (.t 0)⟩,
 ⟨some 46, none, .mv (.t 1)⟩,
 ⟨some 47, none, .call 125 [(.t 45), (.t 46), (.c (.i .i64 15)), (.c (.i .i64 0)), (.c (.i .i64 0)), (.c (.i .i64 0))]⟩])
 (.skip)))
 (.seq (.seq (.reg [⟨some 48, none, .fa 3 (.t 5)⟩,
 ⟨some 49, none, .ld (.t 48)⟩,
 ⟨some 50, none, .bin .eql (.t 49) (.c (.i .i64 1))⟩,
 ⟨some 51, none, .mv (.t 50)⟩,
 ⟨some 52, some (51, false), .fa 3 (.t 5)⟩,
 ⟨some 53, some (51, false), .ld (.t 52)⟩,
 ⟨some 54, some (51, false), .bin .eql (.t 53) (.c (.i .i64 3))⟩,
 ⟨some 55, none, .pick (.t 51) (.c (.b true)) (.t 54)⟩])
 (.cond (.t 55) (.seq (.reg [⟨some 56, none, .mv (.t 0)⟩,
 ⟨some 57, none, .mv (.t 1)⟩,
 ⟨some 58, none, .call 125 [(.t 56), (.t 57), (.c (.i .i64 17)), (.c (.i .i64 0)), (.c (.i .i64 0)), (.c (.i .i64 0))]⟩])
 (.ret))
 (.skip)))
 (.seq (.reg [⟨some 59, none, .mv (.t 0)⟩,
 ⟨some 60, none, .mv (.t 1)⟩,
 ⟨some 61, none, .call 125 [(.t 59), (.t 60), (.c (.i .i64 18)), (.c (.i .i64 0)), (.c (.i .i64 0)), (.c (.i .i64 0))]⟩])
 (.regd [⟨some 62, none, .mv (.t 0)⟩,
 ⟨some 63, none, .nc (.t 62)⟩,
 ⟨some 64, none, .fa 0 (.t 63)⟩,
 ⟨some 65, none, .fa 0 (.t 64)⟩,
 ⟨some 66, none, .ld (.t 65)⟩,
 ⟨some 67, none, .mv (.t 6)⟩,
 ⟨some 68, none, .mv (.t 0)⟩,
 ⟨some 69, none, .call 173 [(.t 68)]⟩,
 ⟨some 70, none, .ia 6 (.t 66) (.t 67)⟩,
 ⟨some 71, none, .fa 1 (.t 70)⟩,
 ⟨none, none, .st 1 (.t 71) (.t 69)⟩] [(4, 7)]))))))))
theorem fn171 : fnOf Tryz.prog Tryz.prog.globals.size ext 171 = .go 72 [] v171 := by rw [fnOf, Tryz.func171]; kernel_rfl

/-- (*clew/comp.maker).leaf -/
def v172 : VC :=
.seq (.reg [⟨some 5, none, .box 10 (.t 2)⟩])
 (.seq (.reg [⟨some 6, none, .fa 0 (.t 5)⟩,
 ⟨some 7, none, .ld (.t 6)⟩])
 (.blk 0 (.seq (.reg [⟨some 9, none, .bin .eql (.t 7) (.c (.i .i64 2))⟩,
 ⟨some 8, none, .mv (.t 9)⟩])
 (.cond (.t 8) (.seq (.regd [⟨some 10, none, .mv (.t 0)⟩,
 ⟨some 11, none, .mv (.t 0)⟩,
 ⟨some 12, none, .nc (.t 11)⟩,
 ⟨some 13, none, .fa 0 (.t 12)⟩,
 ⟨some 14, none, .fa 1 (.t 13)⟩,
 ⟨some 15, none, .ld (.t 14)⟩,
 ⟨some 16, none, .fa 8 (.t 5)⟩,
 ⟨some 17, none, .ld (.t 16)⟩,
 ⟨some 18, none, .bsl 1 1 [(.sl none 0 0 true)] [(0, 1, (.t 17))]⟩,
 ⟨some 19, none, .app ⟨1, (some 54)⟩ 24 (.t 15) (.t 18)⟩,
 ⟨some 20, none, .nc (.t 10)⟩,
 ⟨some 21, none, .fa 0 (.t 20)⟩,
 ⟨some 22, none, .fa 1 (.t 21)⟩,
 ⟨none, none, .st 1 (.t 22) (.t 19)⟩] [(5, 8)])
 (.reg [⟨some 23, none, .mv (.t 0)⟩,
 ⟨some 24, none, .mv (.t 1)⟩,
 ⟨some 25, none, .mv (.t 0)⟩,
 ⟨some 26, none, .nc (.t 25)⟩,
 ⟨some 27, none, .fa 0 (.t 26)⟩,
 ⟨some 28, none, .fa 1 (.t 27)⟩,
 ⟨some 29, none, .ld (.t 28)⟩,
 ⟨some 30, none, .len 1 (.t 29)⟩,
 ⟨some 31, none, .bin .sub (.t 30) (.c (.i .i64 1))⟩,
 ⟨some 32, none, .call 125 [(.t 23), (.t 24), (.c (.i .i64 1)), (.t 31), (.c (.i .i64 0)), (.c (.i .i64 0))]⟩]))
 (.seq (.reg [⟨some 34, none, .bin .eql (.t 7) (.c (.i .i64 3))⟩,
 ⟨some 33, none, .mv (.t 34)⟩])
 (.cond (.t 33) (.reg [⟨some 35, none, .mv (.t 0)⟩,
 ⟨some 36, none, .mv (.t 1)⟩,
 ⟨some 37, none, .fa 3 (.t 5)⟩,
 ⟨some 38, none, .ld (.t 37)⟩,
 ⟨some 39, none, .call 125 [(.t 35), (.t 36), (.c (.i .i64 2)), (.t 38), (.c (.i .i64 0)), (.c (.i .i64 0))]⟩])
 (.seq (.reg [⟨some 41, none, .bin .eql (.t 7) (.c (.i .i64 4))⟩,
 ⟨some 40, none, .mv (.t 41)⟩])
 (.cond (.t 40) (.reg [⟨some 42, none, .mv (.t 0)⟩,
 ⟨some 43, none, .mv (.t 1)⟩,
 ⟨some 44, none, .fa 3 (.t 5)⟩,
 ⟨some 45, none, .ld (.t 44)⟩,
 ⟨some 46, none, .fa 6 (.t 5)⟩,
 ⟨some 47, none, .ld (.t 46)⟩,
 ⟨some 48, none, .call 125 [(.t 42), (.t 43), (.c (.i .i64 3)), (.t 45), (.t 47), (.c (.i .i64 0))]⟩])
 (.skip)))))))))
theorem fn172 : fnOf Tryz.prog Tryz.prog.globals.size ext 172 = .go 49 [] v172 := by rw [fnOf, Tryz.func172]; kernel_rfl

/-- (*clew/comp.maker).here -/
def v173 : VC :=
.seq (.reg [⟨some 2, none, .mv (.c (.i .i64 0))⟩])
 (.seq (.reg [⟨some 3, none, .mv (.t 0)⟩,
 ⟨some 4, none, .nc (.t 3)⟩,
 ⟨some 5, none, .fa 0 (.t 4)⟩,
 ⟨some 6, none, .fa 0 (.t 5)⟩,
 ⟨some 7, none, .ld (.t 6)⟩,
 ⟨some 8, none, .len 1 (.t 7)⟩,
 ⟨some 2, none, .mv (.t 8)⟩])
 (.ret))
theorem fn173 : fnOf Tryz.prog Tryz.prog.globals.size ext 173 = .go 9 [.t 2] v173 := by rw [fnOf, Tryz.func173]; kernel_rfl

/-- slices.pdqsortCmpFunc[clew/rset.Range] -/
def v174 : VC :=
.seq (.reg [⟨some 10, none, .mv (.c (.b true))⟩])
 (.seq (.reg [⟨some 11, none, .mv (.c (.b true))⟩])
 (.blk 0 (.loop (.blk 1 (.seq (.reg [⟨some 21, none, .mv (.t 2)⟩,
 ⟨some 22, none, .mv (.t 1)⟩,
 ⟨some 23, none, .bin .sub (.t 21) (.t 22)⟩,
 ⟨some 12, none, .mv (.t 23)⟩])
 (.seq (.seq (.reg [⟨some 24, none, .mv (.t 12)⟩,
 ⟨some 25, none, .bin .leq (.t 24) (.c (.i .i64 12))⟩])
 (.cond (.t 25) (.seq (.reg [⟨some 26, none, .mv (.t 0)⟩,
 ⟨some 27, none, .mv (.t 1)⟩,
 ⟨some 28, none, .mv (.t 2)⟩,
 ⟨some 29, none, .mv (.t 4)⟩,
 ⟨some 30, none, .call 205 [(.t 26), (.t 27), (.t 28), (.t 29)]⟩])
 (.ret))
 (.skip)))
 (.seq (.seq (.reg [⟨some 31, none, .mv (.t 3)⟩,
 ⟨some 32, none, .bin .eql (.t 31) (.c (.i .i64 0))⟩])
 (.cond (.t 32) (.seq (.reg [⟨some 33, none, .mv (.t 0)⟩,
 ⟨some 34, none, .mv (.t 1)⟩,
 ⟨some 35, none, .mv (.t 2)⟩,
 ⟨some 36, none, .mv (.t 4)⟩,
 ⟨some 37, none, .call 206 [(.t 33), (.t 34), (.t 35), (.t 36)]⟩])
 (.ret))
 (.skip)))
 (.seq (.seq (.reg [⟨some 38, none, .mv (.t 10)⟩,
 ⟨some 39, none, .un .not (.t 38)⟩])
 (.cond (.t 39) (.seq (.reg [⟨some 40, none, .mv (.t 0)⟩,
 ⟨some 41, none, .mv (.t 1)⟩,
 ⟨some 42, none, .mv (.t 2)⟩,
 ⟨some 43, none, .mv (.t 4)⟩,
 ⟨some 44, none, .call 207 [(.t 40), (.t 41), (.t 42), (.t 43)]⟩])
 (.reg [⟨some 45, none, .mv (.t 3)⟩,
 ⟨some 46, none, .bin .sub (.t 45) (.c (.i .i64 1))⟩,
 ⟨some 3, none, .mv (.t 46)⟩]))
 (.skip)))
 (.seq (.reg [⟨some 48, none, .mv (.t 0)⟩,
 ⟨some 49, none, .mv (.t 1)⟩,
 ⟨some 50, none, .mv (.t 2)⟩,
 ⟨some 51, none, .mv (.t 4)⟩,
 ⟨some 52, none, .call 208 [(.t 48), (.t 49), (.t 50), (.t 51)]⟩,
 ⟨some 47, none, .mv (.t 52)⟩,
 ⟨some 53, none, .ext (.t 47) 0⟩,
 ⟨some 54, none, .ext (.t 47) 1⟩,
 ⟨some 13, none, .mv (.t 53)⟩,
 ⟨some 14, none, .mv (.t 54)⟩])
 (.seq (.seq (.reg [⟨some 55, none, .mv (.t 14)⟩,
 ⟨some 56, none, .bin .eql (.t 55) (.c (.i .i64 2))⟩])
 (.cond (.t 56) (.seq (.reg [⟨some 57, none, .mv (.t 0)⟩,
 ⟨some 58, none, .mv (.t 1)⟩,
 ⟨some 59, none, .mv (.t 2)⟩,
 ⟨some 60, none, .mv (.t 4)⟩,
 ⟨some 61, none, .call 209 [(.t 57), (.t 58), (.t 59), (.t 60)]⟩])
 (.seq (.reg [⟨some 62, none, .mv (.t 2)⟩,
 ⟨some 63, none, .bin .sub (.t 62) (.c (.i .i64 1))⟩,
 ⟨some 64, none, .mv (.t 13)⟩,
 ⟨some 65, none, .mv (.t 1)⟩,
 ⟨some 66, none, .bin .sub (.t 64) (.t 65)⟩,
 ⟨some 67, none, .bin .sub (.t 63) (.t 66)⟩,
 ⟨some 13, none, .mv (.t 67)⟩])
 (.reg [⟨some 14, none, .mv (.c (.i .i64 1))⟩])))
 (.skip)))
 (.seq (.seq (.reg [⟨some 68, none, .mv (.t 10)⟩,
 ⟨some 69, none, .mv (.t 68)⟩,
 ⟨some 70, some (69, true), .mv (.t 11)⟩,
 ⟨some 71, none, .pick (.t 69) (.t 70) (.c (.b false))⟩,
 ⟨some 72, none, .mv (.t 71)⟩,
 ⟨some 73, some (72, true), .mv (.t 14)⟩,
 ⟨some 74, some (72, true), .bin .eql (.t 73) (.c (.i .i64 1))⟩,
 ⟨some 75, none, .pick (.t 72) (.t 74) (.c (.b false))⟩])
 (.cond (.t 75) (.seq (.reg [⟨some 76, none, .mv (.t 0)⟩,
 ⟨some 77, none, .mv (.t 1)⟩,
 ⟨some 78, none, .mv (.t 2)⟩,
 ⟨some 79, none, .mv (.t 4)⟩,
 ⟨some 80, none, .call 210 [(.t 76), (.t 77), (.t 78), (.t 79)]⟩])
 (.cond (.t 80) (.ret)
 (.skip)))
 (.skip)))
 (.seq (.seq (.regd [⟨some 81, none, .mv (.t 1)⟩,
 ⟨some 82, none, .bin .gtr (.t 81) (.c (.i .i64 0))⟩,
 ⟨some 83, none, .mv (.t 82)⟩,
 ⟨some 84, some (83, true), .mv (.t 4)⟩,
 ⟨some 85, some (83, true), .mv (.t 0)⟩,
 ⟨some 86, some (83, true), .mv (.t 1)⟩,
 ⟨some 87, some (83, true), .bin .sub (.t 86) (.c (.i .i64 1))⟩,
 ⟨some 88, some (83, true), .ia 2 (.t 85) (.t 87)⟩,
 ⟨some 89, some (83, true), .ldn 2 (.t 88)⟩,
 ⟨some 90, some (83, true), .mv (.t 0)⟩,
 ⟨some 91, some (83, true), .mv (.t 13)⟩,
 ⟨some 92, some (83, true), .ia 2 (.t 90) (.t 91)⟩,
 ⟨some 93, some (83, true), .ldn 2 (.t 92)⟩,
 ⟨some 94, some (83, true), .cv (.t 84) [(.t 89), (.t 93)]⟩,
 ⟨some 95, some (83, true), .bin .lss (.t 94) (.c (.i .i64 0))⟩,
 ⟨some 96, some (83, true), .un .not (.t 95)⟩,
 ⟨some 97, none, .pick (.t 83) (.t 96) (.c (.b false))⟩] [])
 (.cond (.t 97) (.seq (.reg [⟨some 98, none, .mv (.t 0)⟩,
 ⟨some 99, none, .mv (.t 1)⟩,
 ⟨some 100, none, .mv (.t 2)⟩,
 ⟨some 101, none, .mv (.t 13)⟩,
 ⟨some 102, none, .mv (.t 4)⟩,
 ⟨some 103, none, .call 211 [(.t 98), (.t 99), (.t 100), (.t 101), (.t 102)]⟩,
 ⟨some 15, none, .mv (.t 103)⟩])
 (.seq (.reg [⟨some 104, none, .mv (.t 15)⟩,
 ⟨some 1, none, .mv (.t 104)⟩])
 (.exit 1)))
 (.skip)))
 (.seq (.reg [⟨some 106, none, .mv (.t 0)⟩,
 ⟨some 107, none, .mv (.t 1)⟩,
 ⟨some 108, none, .mv (.t 2)⟩,
 ⟨some 109, none, .mv (.t 13)⟩,
 ⟨some 110, none, .mv (.t 4)⟩,
 ⟨some 111, none, .call 212 [(.t 106), (.t 107), (.t 108), (.t 109), (.t 110)]⟩,
 ⟨some 105, none, .mv (.t 111)⟩,
 ⟨some 112, none, .ext (.t 105) 0⟩,
 ⟨some 113, none, .ext (.t 105) 1⟩,
 ⟨some 16, none, .mv (.t 112)⟩,
 ⟨some 17, none, .mv (.t 113)⟩])
 (.seq (.reg [⟨some 114, none, .mv (.t 17)⟩,
 ⟨some 11, none, .mv (.t 114)⟩])
 (.seq (.reg [⟨some 115, none, .mv (.t 16)⟩,
 ⟨some 116, none, .mv (.t 1)⟩,
 ⟨some 117, none, .bin .sub (.t 115) (.t 116)⟩,
 ⟨some 118, none, .mv (.t 2)⟩,
 ⟨some 119, none, .mv (.t 16)⟩,
 ⟨some 120, none, .bin .sub (.t 118) (.t 119)⟩,
 ⟨some 18, none, .mv (.t 117)⟩,
 ⟨some 19, none, .mv (.t 120)⟩])
 (.seq (.reg [⟨some 121, none, .mv (.t 12)⟩,
 ⟨some 122, none, .bin .quo (.t 121) (.c (.i .i64 8))⟩,
 ⟨some 20, none, .mv (.t 122)⟩])
 (.seq (.reg [⟨some 123, none, .mv (.t 18)⟩,
 ⟨some 124, none, .mv (.t 19)⟩,
 ⟨some 125, none, .bin .lss (.t 123) (.t 124)⟩])
 (.cond (.t 125) (.seq (.reg [⟨some 126, none, .mv (.t 18)⟩,
 ⟨some 127, none, .mv (.t 20)⟩,
 ⟨some 128, none, .bin .geq (.t 126) (.t 127)⟩,
 ⟨some 10, none, .mv (.t 128)⟩])
 (.seq (.reg [⟨some 129, none, .mv (.t 0)⟩,
 ⟨some 130, none, .mv (.t 1)⟩,
 ⟨some 131, none, .mv (.t 16)⟩,
 ⟨some 132, none, .mv (.t 3)⟩,
 ⟨some 133, none, .mv (.t 4)⟩,
 ⟨some 134, none, .call 174 [(.t 129), (.t 130), (.t 131), (.t 132), (.t 133)]⟩])
 (.reg [⟨some 135, none, .mv (.t 16)⟩,
 ⟨some 136, none, .bin .add (.t 135) (.c (.i .i64 1))⟩,
 ⟨some 1, none, .mv (.t 136)⟩])))
 (.seq (.reg [⟨some 137, none, .mv (.t 19)⟩,
 ⟨some 138, none, .mv (.t 20)⟩,
 ⟨some 139, none, .bin .geq (.t 137) (.t 138)⟩,
 ⟨some 10, none, .mv (.t 139)⟩])
 (.seq (.reg [⟨some 140, none, .mv (.t 0)⟩,
 ⟨some 141, none, .mv (.t 16)⟩,
 ⟨some 142, none, .bin .add (.t 141) (.c (.i .i64 1))⟩,
 ⟨some 143, none, .mv (.t 2)⟩,
 ⟨some 144, none, .mv (.t 3)⟩,
 ⟨some 145, none, .mv (.t 4)⟩,
 ⟨some 146, none, .call 174 [(.t 140), (.t 142), (.t 143), (.t 144), (.t 145)]⟩])
 (.reg [⟨some 147, none, .mv (.t 16)⟩,
 ⟨some 2, none, .mv (.t 147)⟩])))))))))))))))))))))
theorem fn174 : fnOf Tryz.prog Tryz.prog.globals.size ext 174 = .go 148 [] v174 := by rw [fnOf, Tryz.func174]; kernel_rfl

/-- math/bits.Len -/
def v175 : VC :=
.seq (.reg [⟨some 2, none, .mv (.c (.i .i64 0))⟩])
 (.seq (.cond (.c (.b false)) (.seq (.reg [⟨some 3, none, .mv (.t 0)⟩,
 ⟨some 4, none, .cvi .u32 (.t 3)⟩,
 ⟨some 5, none, .call 213 [(.t 4)]⟩,
 ⟨some 2, none, .mv (.t 5)⟩])
 (.ret))
 (.skip))
 (.seq (.reg [⟨some 6, none, .mv (.t 0)⟩,
 ⟨some 7, none, .call 214 [(.t 6)]⟩,
 ⟨some 2, none, .mv (.t 7)⟩])
 (.ret)))
theorem fn175 : fnOf Tryz.prog Tryz.prog.globals.size ext 175 = .go 8 [.t 2] v175 := by rw [fnOf, Tryz.func175]; kernel_rfl

/-- cmp.isNaN[int] -/
def v176 : VC :=
.seq (.reg [⟨some 2, none, .mv (.c (.b false))⟩])
 (.seq (.reg [⟨some 3, none, .mv (.t 0)⟩,
 ⟨some 4, none, .mv (.t 0)⟩,
 ⟨some 5, none, .bin .neq (.t 3) (.t 4)⟩,
 ⟨some 2, none, .mv (.t 5)⟩])
 (.ret))
theorem fn176 : fnOf Tryz.prog Tryz.prog.globals.size ext 176 = .go 6 [.t 2] v176 := by rw [fnOf, Tryz.func176]; kernel_rfl

/-- unicode/utf8.DecodeRune -/
def v177 : VC :=
.seq (.reg [⟨some 2, none, .mv (.c (.i .i32 0))⟩,
 ⟨some 3, none, .mv (.c (.i .i64 0))⟩])
 (.seq (.seq (.reg [⟨some 6, none, .mv (.t 0)⟩,
 ⟨some 7, none, .len 1 (.t 6)⟩,
 ⟨some 8, none, .mv (.c (.i .i64 0))⟩])
 (.blk 0 (.loop (.seq (.reg [⟨some 9, none, .bin .lss (.t 8) (.t 7)⟩])
 (.seq (.cond (.t 9) (.skip)
 (.exit 0))
 (.seq (.blk 1 (.seq (.reg [⟨some 10, none, .ia 1 (.t 6) (.t 8)⟩,
 ⟨some 11, none, .ld (.t 10)⟩,
 ⟨some 5, none, .mv (.t 11)⟩])
 (.seq (.seq (.reg [⟨some 12, none, .mv (.t 5)⟩,
 ⟨some 13, none, .bin .lss (.t 12) (.c (.i .u8 128))⟩])
 (.cond (.t 13) (.seq (.reg [⟨some 14, none, .mv (.t 5)⟩,
 ⟨some 15, none, .cvi .i32 (.t 14)⟩,
 ⟨some 2, none, .mv (.t 15)⟩,
 ⟨some 3, none, .mv (.c (.i .i64 1))⟩])
 (.ret))
 (.skip)))
 (.exit 0))))
 (.reg [⟨some 16, none, .bin .add (.t 8) (.c (.i .i64 1))⟩,
 ⟨some 8, none, .mv (.t 16)⟩])))))))
 (.seq (.reg [⟨some 18, none, .mv (.t 0)⟩,
 ⟨some 19, none, .call 215 [(.t 18)]⟩,
 ⟨some 17, none, .mv (.t 19)⟩,
 ⟨some 20, none, .ext (.t 17) 0⟩,
 ⟨some 21, none, .ext (.t 17) 1⟩,
 ⟨some 2, none, .mv (.t 20)⟩,
 ⟨some 3, none, .mv (.t 21)⟩])
 (.ret)))
theorem fn177 : fnOf Tryz.prog Tryz.prog.globals.size ext 177 = .go 22 [.t 2, .t 3] v177 := by rw [fnOf, Tryz.func177]; kernel_rfl

/-- math/bits.Mul32 -/
def v178 : VC :=
.seq (.reg [⟨some 4, none, .mv (.c (.i .u32 0))⟩,
 ⟨some 5, none, .mv (.c (.i .u32 0))⟩])
 (.seq (.reg [⟨some 7, none, .mv (.t 0)⟩,
 ⟨some 8, none, .cvi .u64 (.t 7)⟩,
 ⟨some 9, none, .mv (.t 1)⟩,
 ⟨some 10, none, .cvi .u64 (.t 9)⟩,
 ⟨some 11, none, .bin .mul (.t 8) (.t 10)⟩,
 ⟨some 6, none, .mv (.t 11)⟩])
 (.seq (.reg [⟨some 12, none, .mv (.t 6)⟩,
 ⟨some 13, none, .bin .shr (.t 12) (.c (.i .u64 32))⟩,
 ⟨some 14, none, .cvi .u32 (.t 13)⟩,
 ⟨some 15, none, .mv (.t 6)⟩,
 ⟨some 16, none, .cvi .u32 (.t 15)⟩,
 ⟨some 4, none, .mv (.t 14)⟩,
 ⟨some 5, none, .mv (.t 16)⟩])
 (.ret)))
theorem fn178 : fnOf Tryz.prog Tryz.prog.globals.size ext 178 = .go 17 [.t 4, .t 5] v178 := by rw [fnOf, Tryz.func178]; kernel_rfl

/-- math/bits.Mul64 -/
def v179 : VC :=
.seq (.reg [⟨some 4, none, .mv (.c (.i .u64 0))⟩,
 ⟨some 5, none, .mv (.c (.i .u64 0))⟩])
 (.seq (.reg [⟨some 14, none, .mv (.t 0)⟩,
 ⟨some 15, none, .bin .and (.t 14) (.c (.i .u64 4294967295))⟩,
 ⟨some 6, none, .mv (.t 15)⟩])
 (.seq (.reg [⟨some 16, none, .mv (.t 0)⟩,
 ⟨some 17, none, .bin .shr (.t 16) (.c (.i .u64 32))⟩,
 ⟨some 7, none, .mv (.t 17)⟩])
 (.seq (.reg [⟨some 18, none, .mv (.t 1)⟩,
 ⟨some 19, none, .bin .and (.t 18) (.c (.i .u64 4294967295))⟩,
 ⟨some 8, none, .mv (.t 19)⟩])
 (.seq (.reg [⟨some 20, none, .mv (.t 1)⟩,
 ⟨some 21, none, .bin .shr (.t 20) (.c (.i .u64 32))⟩,
 ⟨some 9, none, .mv (.t 21)⟩])
 (.seq (.reg [⟨some 22, none, .mv (.t 6)⟩,
 ⟨some 23, none, .mv (.t 8)⟩,
 ⟨some 24, none, .bin .mul (.t 22) (.t 23)⟩,
 ⟨some 10, none, .mv (.t 24)⟩])
 (.seq (.reg [⟨some 25, none, .mv (.t 7)⟩,
 ⟨some 26, none, .mv (.t 8)⟩,
 ⟨some 27, none, .bin .mul (.t 25) (.t 26)⟩,
 ⟨some 28, none, .mv (.t 10)⟩,
 ⟨some 29, none, .bin .shr (.t 28) (.c (.i .u64 32))⟩,
 ⟨some 30, none, .bin .add (.t 27) (.t 29)⟩,
 ⟨some 11, none, .mv (.t 30)⟩])
 (.seq (.reg [⟨some 31, none, .mv (.t 11)⟩,
 ⟨some 32, none, .bin .and (.t 31) (.c (.i .u64 4294967295))⟩,
 ⟨some 12, none, .mv (.t 32)⟩])
 (.seq (.reg [⟨some 33, none, .mv (.t 11)⟩,
 ⟨some 34, none, .bin .shr (.t 33) (.c (.i .u64 32))⟩,
 ⟨some 13, none, .mv (.t 34)⟩])
 (.seq (.reg [⟨some 35, none, .mv (.t 12)⟩,
 ⟨some 36, none, .mv (.t 6)⟩,
 ⟨some 37, none, .mv (.t 9)⟩,
 ⟨some 38, none, .bin .mul (.t 36) (.t 37)⟩,
 ⟨some 39, none, .bin .add (.t 35) (.t 38)⟩,
 ⟨some 12, none, .mv (.t 39)⟩])
 (.seq (.reg [⟨some 40, none, .mv (.t 7)⟩,
 ⟨some 41, none, .mv (.t 9)⟩,
 ⟨some 42, none, .bin .mul (.t 40) (.t 41)⟩,
 ⟨some 43, none, .mv (.t 13)⟩,
 ⟨some 44, none, .bin .add (.t 42) (.t 43)⟩,
 ⟨some 45, none, .mv (.t 12)⟩,
 ⟨some 46, none, .bin .shr (.t 45) (.c (.i .u64 32))⟩,
 ⟨some 47, none, .bin .add (.t 44) (.t 46)⟩,
 ⟨some 4, none, .mv (.t 47)⟩])
 (.seq (.reg [⟨some 48, none, .mv (.t 0)⟩,
 ⟨some 49, none, .mv (.t 1)⟩,
 ⟨some 50, none, .bin .mul (.t 48) (.t 49)⟩,
 ⟨some 5, none, .mv (.t 50)⟩])
 (.ret))))))))))))
theorem fn179 : fnOf Tryz.prog Tryz.prog.globals.size ext 179 = .go 51 [.t 4, .t 5] v179 := by rw [fnOf, Tryz.func179]; kernel_rfl

/-- slices.Backward[[]clew/undo.note,clew/undo.note]$1 -/
def v180 : VC :=
.seq (.reg [⟨some 4, none, .ld (.t 1)⟩,
 ⟨some 5, none, .len 1 (.t 4)⟩,
 ⟨some 6, none, .bin .sub (.t 5) (.c (.i .i64 1))⟩,
 ⟨some 3, none, .mv (.t 6)⟩])
 (.blk 0 (.loop (.seq (.seq (.reg [⟨some 7, none, .mv (.t 3)⟩,
 ⟨some 8, none, .bin .geq (.t 7) (.c (.i .i64 0))⟩])
 (.cond (.t 8) (.skip)
 (.exit 0)))
 (.seq (.blk 1 (.seq (.reg [⟨some 11, none, .mv (.t 0)⟩,
 ⟨some 12, none, .mv (.t 3)⟩,
 ⟨some 13, none, .ld (.t 1)⟩,
 ⟨some 14, none, .mv (.t 3)⟩,
 ⟨some 15, none, .ia 2 (.t 13) (.t 14)⟩,
 ⟨some 16, none, .ldn 2 (.t 15)⟩,
 ⟨some 17, none, .cv (.t 11) [(.t 12), (.t 16)]⟩,
 ⟨some 18, none, .un .not (.t 17)⟩])
 (.cond (.t 18) (.ret)
 (.skip))))
 (.reg [⟨some 9, none, .mv (.t 3)⟩,
 ⟨some 10, none, .bin .sub (.t 9) (.c (.i .i64 1))⟩,
 ⟨some 3, none, .mv (.t 10)⟩])))))
theorem fn180 : fnOf Tryz.prog Tryz.prog.globals.size ext 180 = .go 19 [] v180 := by rw [fnOf, Tryz.func180]; kernel_rfl

/-- slices.ContainsFunc[[]clew/rset.Range,clew/rset.Range] -/
def v181 : VC :=
.seq (.reg [⟨some 4, none, .mv (.c (.b false))⟩])
 (.seq (.reg [⟨some 5, none, .mv (.t 0)⟩,
 ⟨some 6, none, .mv (.t 1)⟩,
 ⟨some 7, none, .call 216 [(.t 5), (.t 6)]⟩,
 ⟨some 8, none, .bin .geq (.t 7) (.c (.i .i64 0))⟩,
 ⟨some 4, none, .mv (.t 8)⟩])
 (.ret))
theorem fn181 : fnOf Tryz.prog Tryz.prog.globals.size ext 181 = .go 9 [.t 4] v181 := by rw [fnOf, Tryz.func181]; kernel_rfl

/-- clew/rset.Has$1 -/
def v182 : VC :=
.seq (.reg [⟨some 2, none, .box 2 (.t 0)⟩,
 ⟨some 3, none, .mv (.c (.b false))⟩])
 (.seq (.reg [⟨some 4, none, .fa 0 (.t 2)⟩,
 ⟨some 5, none, .ld (.t 4)⟩,
 ⟨some 6, none, .ld (.t 1)⟩,
 ⟨some 7, none, .bin .leq (.t 5) (.t 6)⟩,
 ⟨some 8, none, .mv (.t 7)⟩,
 ⟨some 9, some (8, true), .ld (.t 1)⟩,
 ⟨some 10, some (8, true), .fa 1 (.t 2)⟩,
 ⟨some 11, some (8, true), .ld (.t 10)⟩,
 ⟨some 12, some (8, true), .bin .leq (.t 9) (.t 11)⟩,
 ⟨some 13, none, .pick (.t 8) (.t 12) (.c (.b false))⟩,
 ⟨some 3, none, .mv (.t 13)⟩])
 (.ret))
theorem fn182 : fnOf Tryz.prog Tryz.prog.globals.size ext 182 = .go 14 [.t 3] v182 := by rw [fnOf, Tryz.func182]; kernel_rfl

/-- clew/class.Word -/
def v183 : VC :=
.seq (.reg [⟨some 2, none, .mv (.c (.b false))⟩])
 (.seq (.reg [⟨some 3, none, .mv (.t 0)⟩,
 ⟨some 4, none, .bin .leq (.t 3) (.c (.i .i64 1114367))⟩,
 ⟨some 5, none, .mv (.t 4)⟩,
 ⟨some 6, some (5, true), .call 217 [(.c (.s ⟨#[119, 111, 114, 100]⟩))]⟩,
 ⟨some 7, some (5, true), .mv (.t 0)⟩,
 ⟨some 8, some (5, true), .call 145 [(.t 6), (.t 7)]⟩,
 ⟨some 9, none, .pick (.t 5) (.t 8) (.c (.b false))⟩,
 ⟨some 2, none, .mv (.t 9)⟩])
 (.ret))
theorem fn183 : fnOf Tryz.prog Tryz.prog.globals.size ext 183 = .go 10 [.t 2] v183 := by rw [fnOf, Tryz.func183]; kernel_rfl

/-- (clew/text.Text).Again$1 -/
def v184 : VC :=
.seq (.reg [⟨some 4, none, .mv (.c (.b false))⟩])
 (.seq (.reg [⟨some 5, none, .mv (.t 0)⟩,
 ⟨some 6, none, .mv (.t 1)⟩,
 ⟨some 7, none, .bin .eql (.t 5) (.t 6)⟩,
 ⟨some 4, none, .mv (.t 7)⟩])
 (.ret))
theorem fn184 : fnOf Tryz.prog Tryz.prog.globals.size ext 184 = .go 8 [.t 4] v184 := by rw [fnOf, Tryz.func184]; kernel_rfl

/-- clew/fold.Same -/
def v185 : VC :=
.seq (.reg [⟨some 4, none, .mv (.c (.b false))⟩])
 (.seq (.reg [⟨some 5, none, .mv (.t 0)⟩,
 ⟨some 6, none, .call 218 [(.t 5)]⟩,
 ⟨some 7, none, .mv (.t 1)⟩,
 ⟨some 8, none, .call 218 [(.t 7)]⟩,
 ⟨some 9, none, .bin .eql (.t 6) (.t 8)⟩,
 ⟨some 4, none, .mv (.t 9)⟩])
 (.ret))
theorem fn185 : fnOf Tryz.prog Tryz.prog.globals.size ext 185 = .go 10 [.t 4] v185 := by rw [fnOf, Tryz.func185]; kernel_rfl

/-- slices.EqualFunc[[]int,[]int,int,int] -/
def v186 : VC :=
.seq (.reg [⟨some 6, none, .mv (.c (.b false))⟩])
 (.seq (.seq (.reg [⟨some 10, none, .mv (.t 0)⟩,
 ⟨some 11, none, .len 1 (.t 10)⟩,
 ⟨some 12, none, .mv (.t 1)⟩,
 ⟨some 13, none, .len 1 (.t 12)⟩,
 ⟨some 14, none, .bin .neq (.t 11) (.t 13)⟩])
 (.cond (.t 14) (.seq (.reg [⟨some 6, none, .mv (.c (.b false))⟩])
 (.ret))
 (.skip)))
 (.seq (.seq (.reg [⟨some 15, none, .mv (.t 0)⟩,
 ⟨some 16, none, .len 1 (.t 15)⟩,
 ⟨some 17, none, .mv (.c (.i .i64 0))⟩])
 (.blk 0 (.loop (.seq (.reg [⟨some 18, none, .bin .lss (.t 17) (.t 16)⟩])
 (.seq (.cond (.t 18) (.skip)
 (.exit 0))
 (.seq (.blk 1 (.seq (.reg [⟨some 19, none, .mv (.t 17)⟩,
 ⟨some 20, none, .ia 1 (.t 15) (.t 17)⟩,
 ⟨some 21, none, .ld (.t 20)⟩,
 ⟨some 7, none, .mv (.t 19)⟩,
 ⟨some 8, none, .mv (.t 21)⟩])
 (.seq (.reg [⟨some 22, none, .mv (.t 1)⟩,
 ⟨some 23, none, .mv (.t 7)⟩,
 ⟨some 24, none, .ia 1 (.t 22) (.t 23)⟩,
 ⟨some 25, none, .ld (.t 24)⟩,
 ⟨some 9, none, .mv (.t 25)⟩])
 (.seq (.reg [⟨some 26, none, .mv (.t 2)⟩,
 ⟨some 27, none, .mv (.t 8)⟩,
 ⟨some 28, none, .mv (.t 9)⟩,
 ⟨some 29, none, .cv (.t 26) [(.t 27), (.t 28)]⟩,
 ⟨some 30, none, .un .not (.t 29)⟩])
 (.cond (.t 30) (.seq (.reg [⟨some 6, none, .mv (.c (.b false))⟩])
 (.ret))
 (.skip))))))
 (.reg [⟨some 31, none, .bin .add (.t 17) (.c (.i .i64 1))⟩,
 ⟨some 17, none, .mv (.t 31)⟩])))))))
 (.seq (.reg [⟨some 6, none, .mv (.c (.b true))⟩])
 (.ret))))
theorem fn186 : fnOf Tryz.prog Tryz.prog.globals.size ext 186 = .go 32 [.t 6] v186 := by rw [fnOf, Tryz.func186]; kernel_rfl

/-- (*clew/pile.Pile).Cut -/
def v187 : VC :=
.seq (.reg [⟨some 2, none, .alloc 170 [(.b false), (.i .i64 0), (.i .i64 0), (.i .i64 0), (.i .i64 0), (.i .i64 0)]⟩,
 ⟨some 3, none, .mv (.c (.b false))⟩])
 (.seq (.reg [⟨some 7, none, .mv (.t 0)⟩,
 ⟨some 8, none, .call 151 [(.t 7)]⟩,
 ⟨some 6, none, .mv (.t 8)⟩,
 ⟨some 9, none, .ext (.t 6) 0⟩,
 ⟨some 10, none, .ext (.t 6) 1⟩,
 ⟨some 4, none, .alloc 170 [(.b false), (.i .i64 0), (.i .i64 0), (.i .i64 0), (.i .i64 0), (.i .i64 0)]⟩,
 ⟨none, none, .st 6 (.t 4) (.t 9)⟩,
 ⟨some 5, none, .mv (.t 10)⟩])
 (.seq (.seq (.reg [⟨some 11, none, .mv (.t 5)⟩,
 ⟨some 12, none, .un .not (.t 11)⟩])
 (.cond (.t 12) (.seq (.reg [⟨some 13, none, .build [(.b false), (.i .i64 0), (.i .i64 0), (.i .i64 0), (.i .i64 0), (.i .i64 0)] []⟩,
 ⟨none, none, .st 6 (.t 2) (.t 13)⟩,
 ⟨some 3, none, .mv (.c (.b false))⟩])
 (.ret))
 (.skip)))
 (.seq (.regd [⟨some 14, none, .mv (.t 0)⟩,
 ⟨some 15, none, .mv (.t 0)⟩,
 ⟨some 16, none, .nc (.t 15)⟩,
 ⟨some 17, none, .fa 2 (.t 16)⟩,
 ⟨some 18, none, .ld (.t 17)⟩,
 ⟨some 19, none, .mv (.t 0)⟩,
 ⟨some 20, none, .nc (.t 19)⟩,
 ⟨some 21, none, .fa 3 (.t 20)⟩,
 ⟨some 22, none, .ld (.t 21)⟩,
 ⟨some 23, none, .mv (.t 0)⟩,
 ⟨some 24, none, .nc (.t 23)⟩,
 ⟨some 25, none, .fa 3 (.t 24)⟩,
 ⟨some 26, none, .ld (.t 25)⟩,
 ⟨some 27, none, .len 1 (.t 26)⟩,
 ⟨some 28, none, .bin .sub (.t 27) (.c (.i .i64 1))⟩,
 ⟨some 29, none, .ia 1 (.t 22) (.t 28)⟩,
 ⟨some 30, none, .ld (.t 29)⟩,
 ⟨some 31, none, .slc 6 (.t 18) none (some (.t 30)) none⟩,
 ⟨some 32, none, .nc (.t 14)⟩,
 ⟨some 33, none, .fa 2 (.t 32)⟩,
 ⟨none, none, .st 1 (.t 33) (.t 31)⟩] [])
 (.seq (.regd [⟨some 34, none, .mv (.t 0)⟩,
 ⟨some 35, none, .mv (.t 0)⟩,
 ⟨some 36, none, .nc (.t 35)⟩,
 ⟨some 37, none, .fa 3 (.t 36)⟩,
 ⟨some 38, none, .ld (.t 37)⟩,
 ⟨some 39, none, .mv (.t 0)⟩,
 ⟨some 40, none, .nc (.t 39)⟩,
 ⟨some 41, none, .fa 3 (.t 40)⟩,
 ⟨some 42, none, .ld (.t 41)⟩,
 ⟨some 43, none, .len 1 (.t 42)⟩,
 ⟨some 44, none, .bin .sub (.t 43) (.c (.i .i64 1))⟩,
 ⟨some 45, none, .slc 1 (.t 38) none (some (.t 44)) none⟩,
 ⟨some 46, none, .nc (.t 34)⟩,
 ⟨some 47, none, .fa 3 (.t 46)⟩,
 ⟨none, none, .st 1 (.t 47) (.t 45)⟩] [])
 (.seq (.reg [⟨some 48, none, .ldn 6 (.t 4)⟩,
 ⟨none, none, .st 6 (.t 2) (.t 48)⟩,
 ⟨some 3, none, .mv (.c (.b true))⟩])
 (.ret))))))
theorem fn187 : fnOf Tryz.prog Tryz.prog.globals.size ext 187 = .go 49 [.c 2 (some 6), .t 3] v187 := by rw [fnOf, Tryz.func187]; kernel_rfl

/-- clew/delta.Bytes -/
def v188 : VC :=
.seq (.reg [⟨some 2, none, .box 8 (.t 0)⟩,
 ⟨some 3, none, .box 8 (.t 1)⟩,
 ⟨some 4, none, .mv (.c (.sl none 0 0 true))⟩,
 ⟨some 5, none, .mv (.c (.i .i64 0))⟩])
 (.seq (.seq (.regd [⟨some 13, none, .ldn 8 (.t 2)⟩,
 ⟨some 14, none, .call 190 [(.t 13)]⟩,
 ⟨some 15, none, .un .not (.t 14)⟩,
 ⟨some 16, none, .mv (.t 15)⟩,
 ⟨some 17, some (16, false), .ldn 8 (.t 3)⟩,
 ⟨some 18, some (16, false), .ldn 8 (.t 2)⟩,
 ⟨some 19, some (16, false), .call 194 [(.t 18)]⟩,
 ⟨some 20, some (16, false), .call 189 [(.t 17), (.t 19)]⟩,
 ⟨some 21, some (16, false), .un .not (.t 20)⟩,
 ⟨some 22, none, .pick (.t 16) (.c (.b true)) (.t 21)⟩] [(4, 6)])
 (.cond (.t 22) (.seq (.reg [⟨some 4, none, .mv (.c (.sl none 0 0 true))⟩,
 ⟨some 5, none, .mv (.c (.i .i64 11))⟩])
 (.ret))
 (.skip)))
 (.seq (.regd [⟨some 6, none, .alloc 123 [(.i .i64 0), (.i .i64 0), (.i .i64 0), (.i .i64 0), (.i .i64 0), (.i .i64 0)]⟩,
 ⟨some 7, none, .alloc 123 [(.i .i64 0), (.i .i64 0), (.i .i64 0), (.i .i64 0), (.i .i64 0), (.i .i64 0)]⟩,
 ⟨some 23, none, .ldn 8 (.t 2)⟩,
 ⟨some 24, none, .call 219 [(.t 23)]⟩,
 ⟨some 25, none, .ldn 8 (.t 3)⟩,
 ⟨some 26, none, .call 219 [(.t 25)]⟩,
 ⟨none, none, .st 6 (.t 6) (.t 24)⟩,
 ⟨none, none, .st 6 (.t 7) (.t 26)⟩] [(4, 3)])
 (.seq (.reg [⟨some 8, none, .mv (.c (.i .u64 0))⟩])
 (.seq (.reg [⟨some 9, none, .mv (.c (.sl none 0 0 true))⟩])
 (.seq (.seq (.reg [⟨some 27, none, .mv (.c (.i .i64 0))⟩])
 (.blk 0 (.loop (.seq (.reg [⟨some 28, none, .bin .lss (.t 27) (.c (.i .i64 6))⟩])
 (.seq (.cond (.t 28) (.skip)
 (.exit 0))
 (.seq (.blk 1 (.seq (.reg [⟨some 29, none, .mv (.t 27)⟩,
 ⟨some 10, none, .mv (.t 29)⟩])
 (.seq (.regd [⟨some 30, none, .mv (.t 10)⟩,
 ⟨some 31, none, .iaA 6 1 (.t 6) (.t 30)⟩,
 ⟨some 32, none, .ld (.t 31)⟩,
 ⟨some 33, none, .mv (.t 10)⟩,
 ⟨some 34, none, .iaA 6 1 (.t 7) (.t 33)⟩,
 ⟨some 35, none, .ld (.t 34)⟩,
 ⟨some 36, none, .bin .neq (.t 32) (.t 35)⟩] [])
 (.cond (.t 36) (.seq (.reg [⟨some 37, none, .mv (.t 8)⟩,
 ⟨some 38, none, .mv (.t 10)⟩,
 ⟨some 39, none, .bin .shl (.c (.i .u64 1)) (.t 38)⟩,
 ⟨some 40, none, .bin .or (.t 37) (.t 39)⟩,
 ⟨some 8, none, .mv (.t 40)⟩])
 (.regd [⟨some 41, none, .mv (.t 9)⟩,
 ⟨some 42, none, .mv (.t 10)⟩,
 ⟨some 43, none, .iaA 6 1 (.t 7) (.t 42)⟩,
 ⟨some 44, none, .ld (.t 43)⟩,
 ⟨some 45, none, .mv (.t 10)⟩,
 ⟨some 46, none, .iaA 6 1 (.t 6) (.t 45)⟩,
 ⟨some 47, none, .ld (.t 46)⟩,
 ⟨some 48, none, .bin .sub (.t 44) (.t 47)⟩,
 ⟨some 49, none, .call 220 [(.t 48)]⟩,
 ⟨some 50, none, .app ⟨1, (some 5)⟩ 1 (.t 41) (.t 49)⟩,
 ⟨some 9, none, .mv (.t 50)⟩] []))
 (.skip)))))
 (.reg [⟨some 51, none, .bin .add (.t 27) (.c (.i .i64 1))⟩,
 ⟨some 27, none, .mv (.t 51)⟩])))))))
 (.seq (.reg [⟨some 52, none, .fa 7 (.t 2)⟩,
 ⟨some 53, none, .ld (.t 52)⟩,
 ⟨some 54, none, .fa 7 (.t 3)⟩,
 ⟨some 55, none, .ld (.t 54)⟩,
 ⟨some 56, none, .call 221 [(.t 53), (.t 55)]⟩,
 ⟨some 11, none, .mv (.t 56)⟩])
 (.seq (.seq (.reg [⟨some 57, none, .mv (.t 11)⟩,
 ⟨some 58, none, .ia 1 (.t 57) (.c (.i .i64 0))⟩,
 ⟨some 59, none, .ld (.t 58)⟩,
 ⟨some 60, none, .bin .gtr (.t 59) (.c (.i .u8 0))⟩])
 (.cond (.t 60) (.seq (.reg [⟨some 61, none, .mv (.t 8)⟩,
 ⟨some 62, none, .bin .or (.t 61) (.c (.i .u64 64))⟩,
 ⟨some 8, none, .mv (.t 62)⟩])
 (.reg [⟨some 63, none, .mv (.t 9)⟩,
 ⟨some 64, none, .mv (.t 11)⟩,
 ⟨some 65, none, .app ⟨1, (some 5)⟩ 1 (.t 63) (.t 64)⟩,
 ⟨some 9, none, .mv (.t 65)⟩]))
 (.skip)))
 (.seq (.reg [⟨some 66, none, .fa 0 (.t 3)⟩,
 ⟨some 67, none, .ld (.t 66)⟩,
 ⟨some 68, none, .cvi .u64 (.t 67)⟩,
 ⟨some 69, none, .call 222 [(.t 68)]⟩,
 ⟨some 70, none, .mv (.t 8)⟩,
 ⟨some 71, none, .call 222 [(.t 70)]⟩,
 ⟨some 72, none, .app ⟨1, (some 5)⟩ 1 (.t 69) (.t 71)⟩,
 ⟨some 12, none, .mv (.t 72)⟩])
 (.seq (.reg [⟨some 73, none, .mv (.t 12)⟩,
 ⟨some 74, none, .mv (.t 9)⟩,
 ⟨some 75, none, .app ⟨1, (some 5)⟩ 1 (.t 73) (.t 74)⟩,
 ⟨some 4, none, .mv (.t 75)⟩,
 ⟨some 5, none, .mv (.c (.i .i64 0))⟩])
 (.ret))))))))))
theorem fn188 : fnOf Tryz.prog Tryz.prog.globals.size ext 188 = .go 76 [.t 4, .t 5] v188 := by rw [fnOf, Tryz.func188]; kernel_rfl

/-- (clew/event.State).Right -/
def v189 : VC :=
.seq (.reg [⟨some 2, none, .box 8 (.t 0)⟩,
 ⟨some 4, none, .mv (.c (.b false))⟩])
 (.seq (.seq (.reg [⟨some 8, none, .mv (.t 1)⟩,
 ⟨some 9, none, .call 223 [(.t 8), (.c (.i .i64 0)), (.c (.i .i64 99))]⟩,
 ⟨some 10, none, .un .not (.t 9)⟩,
 ⟨some 11, none, .mv (.t 10)⟩,
 ⟨some 12, some (11, false), .fa 7 (.t 2)⟩,
 ⟨some 13, some (11, false), .ld (.t 12)⟩,
 ⟨some 14, some (11, false), .len 1 (.t 13)⟩,
 ⟨some 15, some (11, false), .mv (.t 1)⟩,
 ⟨some 16, some (11, false), .bin .add (.t 15) (.c (.i .i64 1))⟩,
 ⟨some 17, some (11, false), .bin .mul (.c (.i .i64 2)) (.t 16)⟩,
 ⟨some 18, some (11, false), .bin .neq (.t 14) (.t 17)⟩,
 ⟨some 19, none, .pick (.t 11) (.c (.b true)) (.t 18)⟩])
 (.cond (.t 19) (.seq (.reg [⟨some 4, none, .mv (.c (.b false))⟩])
 (.ret))
 (.skip)))
 (.seq (.reg [⟨some 20, none, .fa 0 (.t 2)⟩,
 ⟨some 21, none, .ld (.t 20)⟩,
 ⟨some 22, none, .call 223 [(.t 21), (.c (.i .i64 1)), (.c (.i .i64 14))]⟩,
 ⟨some 23, none, .mv (.t 22)⟩,
 ⟨some 24, some (23, true), .fa 1 (.t 2)⟩,
 ⟨some 25, some (23, true), .ld (.t 24)⟩,
 ⟨some 26, some (23, true), .call 223 [(.t 25), (.c (.i .i64 0)), (.c (.i .i64 16384))]⟩,
 ⟨some 27, none, .pick (.t 23) (.t 26) (.c (.b false))⟩,
 ⟨some 28, none, .mv (.t 27)⟩,
 ⟨some 29, some (28, true), .fa 2 (.t 2)⟩,
 ⟨some 30, some (28, true), .ld (.t 29)⟩,
 ⟨some 31, some (28, true), .call 223 [(.t 30), (.c (.i .i64 0)), (.c (.i .i64 16384))]⟩,
 ⟨some 32, none, .pick (.t 28) (.t 31) (.c (.b false))⟩,
 ⟨some 5, none, .mv (.t 32)⟩])
 (.seq (.reg [⟨some 33, none, .fa 3 (.t 2)⟩,
 ⟨some 34, none, .ld (.t 33)⟩,
 ⟨some 35, none, .call 223 [(.t 34), (.c (.i .i64 0)), (.c (.i .i64 65536))]⟩,
 ⟨some 36, none, .mv (.t 35)⟩,
 ⟨some 37, some (36, true), .fa 4 (.t 2)⟩,
 ⟨some 38, some (36, true), .ld (.t 37)⟩,
 ⟨some 39, some (36, true), .call 223 [(.t 38), (.c (.i .i64 0)), (.c (.i .i64 65536))]⟩,
 ⟨some 40, none, .pick (.t 36) (.t 39) (.c (.b false))⟩,
 ⟨some 6, none, .mv (.t 40)⟩])
 (.seq (.reg [⟨some 41, none, .fa 5 (.t 2)⟩,
 ⟨some 42, none, .ld (.t 41)⟩,
 ⟨some 43, none, .call 223 [(.t 42), (.c (.i .i64 0)), (.c (.i .i64 65536))]⟩,
 ⟨some 44, none, .mv (.t 43)⟩,
 ⟨some 45, some (44, true), .fa 6 (.t 2)⟩,
 ⟨some 46, some (44, true), .ld (.t 45)⟩,
 ⟨some 47, some (44, true), .call 223 [(.t 46), (.c (.i .i64 (-1))), (.c (.i .i64 1048576))]⟩,
 ⟨some 48, none, .pick (.t 44) (.t 47) (.c (.b false))⟩,
 ⟨some 7, none, .mv (.t 48)⟩])
 (.seq (.reg [⟨some 49, none, .mv (.t 5)⟩,
 ⟨some 50, none, .mv (.t 49)⟩,
 ⟨some 51, some (50, true), .mv (.t 6)⟩,
 ⟨some 52, none, .pick (.t 50) (.t 51) (.c (.b false))⟩,
 ⟨some 53, none, .mv (.t 52)⟩,
 ⟨some 54, some (53, true), .mv (.t 7)⟩,
 ⟨some 55, none, .pick (.t 53) (.t 54) (.c (.b false))⟩,
 ⟨some 56, none, .mv (.t 55)⟩,
 ⟨some 57, some (56, true), .fa 7 (.t 2)⟩,
 ⟨some 58, some (56, true), .ld (.t 57)⟩,
 ⟨some 59, some (56, true), .call 224 [(.t 58), (.c (.f 225 [] []))]⟩,
 ⟨some 60, some (56, true), .un .not (.t 59)⟩,
 ⟨some 61, none, .pick (.t 56) (.t 60) (.c (.b false))⟩,
 ⟨some 4, none, .mv (.t 61)⟩])
 (.ret))))))
theorem fn189 : fnOf Tryz.prog Tryz.prog.globals.size ext 189 = .go 62 [.t 4] v189 := by rw [fnOf, Tryz.func189]; kernel_rfl

/-- clew/delta.base -/
def v190 : VC :=
.seq (.reg [⟨some 1, none, .box 8 (.t 0)⟩,
 ⟨some 2, none, .mv (.c (.b false))⟩])
 (.seq (.regd [⟨some 3, none, .ldn 8 (.t 1)⟩,
 ⟨some 4, none, .ldn 8 (.t 1)⟩,
 ⟨some 5, none, .call 194 [(.t 4)]⟩,
 ⟨some 6, none, .call 189 [(.t 3), (.t 5)]⟩,
 ⟨some 7, none, .mv (.t 6)⟩,
 ⟨some 8, some (7, false), .ldn 8 (.t 1)⟩,
 ⟨some 9, some (7, false), .call 194 [(.t 8)]⟩,
 ⟨some 10, some (7, false), .bin .geq (.t 9) (.c (.i .i64 0))⟩,
 ⟨some 11, some (7, false), .mv (.t 10)⟩,
 ⟨some 12, some (11, true), .ldn 8 (.t 1)⟩,
 ⟨some 13, some (11, true), .ldn 8 (.t 1)⟩,
 ⟨some 14, some (11, true), .call 194 [(.t 13)]⟩,
 ⟨some 15, some (11, true), .call 156 [(.t 14)]⟩,
 ⟨some 16, some (11, true), .call 226 [(.t 12), (.t 15)]⟩,
 ⟨some 17, some (7, false), .pick (.t 11) (.t 16) (.c (.b false))⟩,
 ⟨some 18, none, .pick (.t 7) (.c (.b true)) (.t 17)⟩,
 ⟨some 2, none, .mv (.t 18)⟩] [(0, 2), (9, 11), (9, 12)])
 (.ret))
theorem fn190 : fnOf Tryz.prog Tryz.prog.globals.size ext 190 = .go 19 [.t 2] v190 := by rw [fnOf, Tryz.func190]; kernel_rfl

/-- (*clew/delta.reader).number -/
def v191 : VC :=
.seq (.reg [⟨some 4, none, .mv (.c (.i .i64 0))⟩])
 (.seq (.seq (.reg [⟨some 8, none, .mv (.t 0)⟩,
 ⟨some 9, none, .nc (.t 8)⟩,
 ⟨some 10, none, .fa 2 (.t 9)⟩,
 ⟨some 11, none, .ld (.t 10)⟩,
 ⟨some 12, none, .bin .neq (.t 11) (.c (.i .i64 0))⟩])
 (.cond (.t 12) (.seq (.reg [⟨some 4, none, .mv (.c (.i .i64 0))⟩])
 (.ret))
 (.skip)))
 (.seq (.regd [⟨some 14, none, .mv (.t 0)⟩,
 ⟨some 15, none, .nc (.t 14)⟩,
 ⟨some 16, none, .fa 0 (.t 15)⟩,
 ⟨some 17, none, .ld (.t 16)⟩,
 ⟨some 18, none, .mv (.t 0)⟩,
 ⟨some 19, none, .nc (.t 18)⟩,
 ⟨some 20, none, .fa 1 (.t 19)⟩,
 ⟨some 21, none, .ld (.t 20)⟩,
 ⟨some 22, none, .call 227 [(.t 17), (.t 21)]⟩,
 ⟨some 13, none, .mv (.t 22)⟩,
 ⟨some 23, none, .ext (.t 13) 0⟩,
 ⟨some 24, none, .ext (.t 13) 1⟩,
 ⟨some 25, none, .ext (.t 13) 2⟩,
 ⟨some 5, none, .mv (.t 23)⟩,
 ⟨some 6, none, .mv (.t 24)⟩,
 ⟨some 7, none, .mv (.t 25)⟩] [])
 (.seq (.seq (.reg [⟨some 26, none, .mv (.t 7)⟩,
 ⟨some 27, none, .bin .eql (.t 26) (.c (.i .i64 0))⟩,
 ⟨some 28, none, .mv (.t 27)⟩,
 ⟨some 29, some (28, true), .mv (.t 5)⟩,
 ⟨some 30, some (28, true), .mv (.t 1)⟩,
 ⟨some 31, some (28, true), .cvi .u64 (.t 30)⟩,
 ⟨some 32, some (28, true), .bin .gtr (.t 29) (.t 31)⟩,
 ⟨some 33, none, .pick (.t 28) (.t 32) (.c (.b false))⟩])
 (.cond (.t 33) (.reg [⟨some 7, none, .mv (.c (.i .i64 11))⟩])
 (.skip)))
 (.seq (.seq (.reg [⟨some 34, none, .mv (.t 0)⟩,
 ⟨some 35, none, .mv (.t 7)⟩,
 ⟨some 36, none, .nc (.t 34)⟩,
 ⟨some 37, none, .fa 2 (.t 36)⟩,
 ⟨none, none, .st 1 (.t 37) (.t 35)⟩])
 (.seq (.reg [⟨some 38, none, .mv (.t 7)⟩,
 ⟨some 39, none, .bin .neq (.t 38) (.c (.i .i64 0))⟩])
 (.cond (.t 39) (.seq (.reg [⟨some 4, none, .mv (.c (.i .i64 0))⟩])
 (.ret))
 (.skip))))
 (.seq (.reg [⟨some 40, none, .mv (.t 0)⟩,
 ⟨some 41, none, .nc (.t 40)⟩,
 ⟨some 42, none, .fa 1 (.t 41)⟩,
 ⟨some 43, none, .ld (.t 42)⟩,
 ⟨some 44, none, .mv (.t 6)⟩,
 ⟨some 45, none, .bin .add (.t 43) (.t 44)⟩,
 ⟨some 46, none, .nc (.t 40)⟩,
 ⟨some 47, none, .fa 1 (.t 46)⟩,
 ⟨none, none, .st 1 (.t 47) (.t 45)⟩])
 (.seq (.reg [⟨some 48, none, .mv (.t 5)⟩,
 ⟨some 49, none, .cvi .i64 (.t 48)⟩,
 ⟨some 4, none, .mv (.t 49)⟩])
 (.ret)))))))
theorem fn191 : fnOf Tryz.prog Tryz.prog.globals.size ext 191 = .go 50 [.t 4] v191 := by rw [fnOf, Tryz.func191]; kernel_rfl

/-- (*clew/delta.reader).more -/
def v192 : VC :=
.seq (.reg [⟨some 4, none, .mv (.c (.i .i64 0))⟩])
 (.seq (.seq (.reg [⟨some 8, none, .mv (.t 0)⟩,
 ⟨some 9, none, .nc (.t 8)⟩,
 ⟨some 10, none, .fa 2 (.t 9)⟩,
 ⟨some 11, none, .ld (.t 10)⟩,
 ⟨some 12, none, .bin .neq (.t 11) (.c (.i .i64 0))⟩])
 (.cond (.t 12) (.seq (.reg [⟨some 13, none, .mv (.t 1)⟩,
 ⟨some 4, none, .mv (.t 13)⟩])
 (.ret))
 (.skip)))
 (.seq (.regd [⟨some 15, none, .mv (.t 0)⟩,
 ⟨some 16, none, .nc (.t 15)⟩,
 ⟨some 17, none, .fa 0 (.t 16)⟩,
 ⟨some 18, none, .ld (.t 17)⟩,
 ⟨some 19, none, .mv (.t 0)⟩,
 ⟨some 20, none, .nc (.t 19)⟩,
 ⟨some 21, none, .fa 1 (.t 20)⟩,
 ⟨some 22, none, .ld (.t 21)⟩,
 ⟨some 23, none, .call 228 [(.t 18), (.t 22)]⟩,
 ⟨some 14, none, .mv (.t 23)⟩,
 ⟨some 24, none, .ext (.t 14) 0⟩,
 ⟨some 25, none, .ext (.t 14) 1⟩,
 ⟨some 26, none, .ext (.t 14) 2⟩,
 ⟨some 5, none, .mv (.t 24)⟩,
 ⟨some 6, none, .mv (.t 25)⟩,
 ⟨some 7, none, .mv (.t 26)⟩] [])
 (.seq (.seq (.reg [⟨some 27, none, .mv (.t 7)⟩,
 ⟨some 28, none, .bin .eql (.t 27) (.c (.i .i64 0))⟩,
 ⟨some 29, none, .mv (.t 28)⟩,
 ⟨some 30, some (29, true), .mv (.t 5)⟩,
 ⟨some 31, some (29, true), .bin .eql (.t 30) (.c (.i .i64 0))⟩,
 ⟨some 32, none, .pick (.t 29) (.t 31) (.c (.b false))⟩])
 (.cond (.t 32) (.reg [⟨some 7, none, .mv (.c (.i .i64 11))⟩])
 (.skip)))
 (.seq (.seq (.reg [⟨some 33, none, .mv (.t 0)⟩,
 ⟨some 34, none, .mv (.t 7)⟩,
 ⟨some 35, none, .nc (.t 33)⟩,
 ⟨some 36, none, .fa 2 (.t 35)⟩,
 ⟨none, none, .st 1 (.t 36) (.t 34)⟩])
 (.seq (.reg [⟨some 37, none, .mv (.t 7)⟩,
 ⟨some 38, none, .bin .neq (.t 37) (.c (.i .i64 0))⟩])
 (.cond (.t 38) (.seq (.reg [⟨some 39, none, .mv (.t 1)⟩,
 ⟨some 4, none, .mv (.t 39)⟩])
 (.ret))
 (.skip))))
 (.seq (.reg [⟨some 40, none, .mv (.t 0)⟩,
 ⟨some 41, none, .nc (.t 40)⟩,
 ⟨some 42, none, .fa 1 (.t 41)⟩,
 ⟨some 43, none, .ld (.t 42)⟩,
 ⟨some 44, none, .mv (.t 6)⟩,
 ⟨some 45, none, .bin .add (.t 43) (.t 44)⟩,
 ⟨some 46, none, .nc (.t 40)⟩,
 ⟨some 47, none, .fa 1 (.t 46)⟩,
 ⟨none, none, .st 1 (.t 47) (.t 45)⟩])
 (.seq (.reg [⟨some 48, none, .mv (.t 1)⟩,
 ⟨some 49, none, .mv (.t 5)⟩,
 ⟨some 50, none, .bin .add (.t 48) (.t 49)⟩,
 ⟨some 4, none, .mv (.t 50)⟩])
 (.ret)))))))
theorem fn192 : fnOf Tryz.prog Tryz.prog.globals.size ext 192 = .go 51 [.t 4] v192 := by rw [fnOf, Tryz.func192]; kernel_rfl

/-- (*clew/delta.reader).places -/
def v193 : VC :=
.seq (.reg [⟨some 7, none, .mv (.t 0)⟩,
 ⟨some 8, none, .mv (.t 1)⟩,
 ⟨some 9, none, .len 1 (.t 8)⟩,
 ⟨some 10, none, .call 191 [(.t 7), (.t 9)]⟩,
 ⟨some 4, none, .mv (.t 10)⟩])
 (.seq (.seq (.reg [⟨some 11, none, .mv (.t 4)⟩,
 ⟨some 12, none, .bin .eql (.t 11) (.c (.i .i64 0))⟩,
 ⟨some 13, none, .mv (.t 12)⟩,
 ⟨some 14, some (13, true), .mv (.t 0)⟩,
 ⟨some 15, some (13, true), .nc (.t 14)⟩,
 ⟨some 16, some (13, true), .fa 2 (.t 15)⟩,
 ⟨some 17, some (13, true), .ld (.t 16)⟩,
 ⟨some 18, some (13, true), .bin .eql (.t 17) (.c (.i .i64 0))⟩,
 ⟨some 19, none, .pick (.t 13) (.t 18) (.c (.b false))⟩])
 (.cond (.t 19) (.reg [⟨some 20, none, .mv (.t 0)⟩,
 ⟨some 21, none, .nc (.t 20)⟩,
 ⟨some 22, none, .fa 2 (.t 21)⟩,
 ⟨none, none, .st 1 (.t 22) (.c (.i .i64 11))⟩])
 (.skip)))
 (.seq (.reg [⟨some 5, none, .mv (.c (.i .i64 0))⟩])
 (.seq (.reg [⟨some 23, none, .mv (.t 4)⟩,
 ⟨some 24, none, .mv (.c (.i .i64 0))⟩])
 (.blk 0 (.loop (.seq (.reg [⟨some 25, none, .bin .lss (.t 24) (.t 23)⟩])
 (.seq (.cond (.t 25) (.skip)
 (.exit 0))
 (.seq (.blk 1 (.seq (.reg [⟨some 26, none, .mv (.t 0)⟩,
 ⟨some 27, none, .mv (.t 1)⟩,
 ⟨some 28, none, .len 1 (.t 27)⟩,
 ⟨some 29, none, .bin .sub (.t 28) (.c (.i .i64 1))⟩,
 ⟨some 30, none, .mv (.t 5)⟩,
 ⟨some 31, none, .bin .sub (.t 29) (.t 30)⟩,
 ⟨some 32, none, .mx [(.t 31), (.c (.i .i64 0))]⟩,
 ⟨some 33, none, .call 191 [(.t 26), (.t 32)]⟩,
 ⟨some 6, none, .mv (.t 33)⟩])
 (.seq (.seq (.reg [⟨some 34, none, .mv (.t 0)⟩,
 ⟨some 35, none, .nc (.t 34)⟩,
 ⟨some 36, none, .fa 2 (.t 35)⟩,
 ⟨some 37, none, .ld (.t 36)⟩,
 ⟨some 38, none, .bin .eql (.t 37) (.c (.i .i64 0))⟩,
 ⟨some 39, none, .mv (.t 38)⟩,
 ⟨some 40, some (39, true), .mv (.t 5)⟩,
 ⟨some 41, some (39, true), .mv (.t 1)⟩,
 ⟨some 42, some (39, true), .len 1 (.t 41)⟩,
 ⟨some 43, some (39, true), .bin .geq (.t 40) (.t 42)⟩,
 ⟨some 44, none, .pick (.t 39) (.t 43) (.c (.b false))⟩])
 (.cond (.t 44) (.reg [⟨some 45, none, .mv (.t 0)⟩,
 ⟨some 46, none, .nc (.t 45)⟩,
 ⟨some 47, none, .fa 2 (.t 46)⟩,
 ⟨none, none, .st 1 (.t 47) (.c (.i .i64 11))⟩])
 (.skip)))
 (.seq (.seq (.reg [⟨some 48, none, .mv (.t 0)⟩,
 ⟨some 49, none, .nc (.t 48)⟩,
 ⟨some 50, none, .fa 2 (.t 49)⟩,
 ⟨some 51, none, .ld (.t 50)⟩,
 ⟨some 52, none, .bin .neq (.t 51) (.c (.i .i64 0))⟩])
 (.cond (.t 52) (.ret)
 (.skip)))
 (.seq (.reg [⟨some 53, none, .mv (.t 5)⟩,
 ⟨some 54, none, .mv (.t 6)⟩,
 ⟨some 55, none, .bin .add (.t 53) (.t 54)⟩,
 ⟨some 5, none, .mv (.t 55)⟩])
 (.seq (.reg [⟨some 56, none, .mv (.t 1)⟩,
 ⟨some 57, none, .mv (.t 5)⟩,
 ⟨some 58, none, .mv (.t 0)⟩,
 ⟨some 59, none, .mv (.t 1)⟩,
 ⟨some 60, none, .mv (.t 5)⟩,
 ⟨some 61, none, .ia 1 (.t 59) (.t 60)⟩,
 ⟨some 62, none, .ld (.t 61)⟩,
 ⟨some 63, none, .call 192 [(.t 58), (.t 62)]⟩,
 ⟨some 64, none, .ia 1 (.t 56) (.t 57)⟩,
 ⟨none, none, .st 1 (.t 64) (.t 63)⟩])
 (.reg [⟨some 65, none, .mv (.t 5)⟩,
 ⟨some 66, none, .bin .add (.t 65) (.c (.i .i64 1))⟩,
 ⟨some 5, none, .mv (.t 66)⟩])))))))
 (.reg [⟨some 67, none, .bin .add (.t 24) (.c (.i .i64 1))⟩,
 ⟨some 24, none, .mv (.t 67)⟩])))))))))
theorem fn193 : fnOf Tryz.prog Tryz.prog.globals.size ext 193 = .go 68 [] v193 := by rw [fnOf, Tryz.func193]; kernel_rfl

/-- clew/delta.groups -/
def v194 : VC :=
.seq (.reg [⟨some 1, none, .box 8 (.t 0)⟩,
 ⟨some 2, none, .mv (.c (.i .i64 0))⟩])
 (.seq (.reg [⟨some 3, none, .fa 7 (.t 1)⟩,
 ⟨some 4, none, .ld (.t 3)⟩,
 ⟨some 5, none, .len 1 (.t 4)⟩,
 ⟨some 6, none, .bin .quo (.t 5) (.c (.i .i64 2))⟩,
 ⟨some 7, none, .bin .sub (.t 6) (.c (.i .i64 1))⟩,
 ⟨some 2, none, .mv (.t 7)⟩])
 (.ret))
theorem fn194 : fnOf Tryz.prog Tryz.prog.globals.size ext 194 = .go 8 [.t 2] v194 := by rw [fnOf, Tryz.func194]; kernel_rfl

/-- internal/strconv.small -/
def v195 : VC :=
.seq (.reg [⟨some 2, none, .mv (.c (.s ⟨#[]⟩))⟩])
 (.seq (.seq (.reg [⟨some 3, none, .mv (.t 0)⟩,
 ⟨some 4, none, .bin .lss (.t 3) (.c (.i .i64 10))⟩])
 (.cond (.t 4) (.seq (.reg [⟨some 5, none, .mv (.t 0)⟩,
 ⟨some 6, none, .mv (.t 0)⟩,
 ⟨some 7, none, .bin .add (.t 6) (.c (.i .i64 1))⟩,
 ⟨some 8, none, .sls (.c (.s ⟨#[48, 49, 50, 51, 52, 53, 54, 55, 56, 57, 97, 98, 99, 100, 101, 102, 103, 104, 105, 106, 107, 108, 109, 110, 111, 112, 113, 114, 115, 116, 117, 118, 119, 120, 121, 122]⟩)) (some (.t 5)) (some (.t 7))⟩,
 ⟨some 2, none, .mv (.t 8)⟩])
 (.ret))
 (.skip)))
 (.seq (.reg [⟨some 9, none, .mv (.t 0)⟩,
 ⟨some 10, none, .bin .mul (.t 9) (.c (.i .i64 2))⟩,
 ⟨some 11, none, .mv (.t 0)⟩,
 ⟨some 12, none, .bin .mul (.t 11) (.c (.i .i64 2))⟩,
 ⟨some 13, none, .bin .add (.t 12) (.c (.i .i64 2))⟩,
 ⟨some 14, none, .sls (.c (.s ⟨#[48, 48, 48, 49, 48, 50, 48, 51, 48, 52, 48, 53, 48, 54, 48, 55, 48, 56, 48, 57, 49, 48, 49, 49, 49, 50, 49, 51, 49, 52, 49, 53, 49, 54, 49, 55, 49, 56, 49, 57, 50, 48, 50, 49, 50, 50, 50, 51, 50, 52, 50, 53, 50, 54, 50, 55, 50, 56, 50, 57, 51, 48, 51, 49, 51, 50, 51, 51, 51, 52, 51, 53, 51, 54, 51, 55, 51, 56, 51, 57, 52, 48, 52, 49, 52, 50, 52, 51, 52, 52, 52, 53, 52, 54, 52, 55, 52, 56, 52, 57, 53, 48, 53, 49, 53, 50, 53, 51, 53, 52, 53, 53, 53, 54, 53, 55, 53, 56, 53, 57, 54, 48, 54, 49, 54, 50, 54, 51, 54, 52, 54, 53, 54, 54, 54, 55, 54, 56, 54, 57, 55, 48, 55, 49, 55, 50, 55, 51, 55, 52, 55, 53, 55, 54, 55, 55, 55, 56, 55, 57, 56, 48, 56, 49, 56, 50, 56, 51, 56, 52, 56, 53, 56, 54, 56, 55, 56, 56, 56, 57, 57, 48, 57, 49, 57, 50, 57, 51, 57, 52, 57, 53, 57, 54, 57, 55, 57, 56, 57, 57]⟩)) (some (.t 10)) (some (.t 13))⟩,
 ⟨some 2, none, .mv (.t 14)⟩])
 (.ret)))
theorem fn195 : fnOf Tryz.prog Tryz.prog.globals.size ext 195 = .go 15 [.t 2] v195 := by rw [fnOf, Tryz.func195]; kernel_rfl

/-- internal/strconv.numDigits -/
def v196 : VC :=
.seq (.reg [⟨some 2, none, .mv (.c (.i .i64 0))⟩])
 (.seq (.reg [⟨some 4, none, .mv (.t 0)⟩,
 ⟨some 5, none, .call 214 [(.t 4)]⟩,
 ⟨some 6, none, .call 229 [(.t 5)]⟩,
 ⟨some 3, none, .mv (.t 6)⟩])
 (.seq (.reg [⟨some 7, none, .mv (.t 3)⟩,
 ⟨some 8, none, .mv (.t 0)⟩,
 ⟨some 9, none, .mv (.t 3)⟩,
 ⟨some 10, none, .iaA 20 1 (.c (.p (some (0, 0)))) (.t 9)⟩,
 ⟨some 11, none, .ld (.t 10)⟩,
 ⟨some 12, none, .bin .geq (.t 8) (.t 11)⟩,
 ⟨some 13, none, .call 230 [(.t 12)]⟩,
 ⟨some 14, none, .bin .add (.t 7) (.t 13)⟩,
 ⟨some 2, none, .mv (.t 14)⟩])
 (.ret)))
theorem fn196 : fnOf Tryz.prog Tryz.prog.globals.size ext 196 = .go 15 [.t 2] v196 := by rw [fnOf, Tryz.func196]; kernel_rfl

/-- internal/strconv.formatBase10 -/
def v197 : VC :=
.seq (.reg [⟨some 17, none, .mv (.t 0)⟩,
 ⟨some 18, none, .len 1 (.t 17)⟩,
 ⟨some 4, none, .mv (.t 18)⟩])
 (.seq (.blk 0 (.loop (.seq (.seq (.reg [⟨some 19, none, .mv (.t 4)⟩,
 ⟨some 20, none, .bin .geq (.t 19) (.c (.i .i64 8))⟩])
 (.cond (.t 20) (.skip)
 (.exit 0)))
 (.blk 1 (.seq (.reg [⟨some 21, none, .mv (.t 1)⟩,
 ⟨some 22, none, .bin .rem (.t 21) (.c (.i .u64 100000000))⟩,
 ⟨some 23, none, .cvi .u32 (.t 22)⟩,
 ⟨some 5, none, .mv (.t 23)⟩])
 (.seq (.reg [⟨some 24, none, .mv (.t 1)⟩,
 ⟨some 25, none, .bin .quo (.t 24) (.c (.i .u64 100000000))⟩,
 ⟨some 1, none, .mv (.t 25)⟩])
 (.seq (.reg [⟨some 26, none, .mv (.t 5)⟩,
 ⟨some 27, none, .bin .quo (.t 26) (.c (.i .u32 10000))⟩,
 ⟨some 28, none, .mv (.t 5)⟩,
 ⟨some 29, none, .bin .rem (.t 28) (.c (.i .u32 10000))⟩,
 ⟨some 6, none, .mv (.t 27)⟩,
 ⟨some 7, none, .mv (.t 29)⟩])
 (.seq (.reg [⟨some 30, none, .mv (.t 7)⟩,
 ⟨some 31, none, .bin .quo (.t 30) (.c (.i .u32 100))⟩,
 ⟨some 32, none, .bin .mul (.t 31) (.c (.i .u32 2))⟩,
 ⟨some 33, none, .mv (.t 7)⟩,
 ⟨some 34, none, .bin .rem (.t 33) (.c (.i .u32 100))⟩,
 ⟨some 35, none, .bin .mul (.t 34) (.c (.i .u32 2))⟩,
 ⟨some 8, none, .mv (.t 32)⟩,
 ⟨some 9, none, .mv (.t 35)⟩])
 (.seq (.reg [⟨some 36, none, .mv (.t 6)⟩,
 ⟨some 37, none, .bin .quo (.t 36) (.c (.i .u32 100))⟩,
 ⟨some 38, none, .bin .mul (.t 37) (.c (.i .u32 2))⟩,
 ⟨some 39, none, .mv (.t 6)⟩,
 ⟨some 40, none, .bin .rem (.t 39) (.c (.i .u32 100))⟩,
 ⟨some 41, none, .bin .mul (.t 40) (.c (.i .u32 2))⟩,
 ⟨some 10, none, .mv (.t 38)⟩,
 ⟨some 11, none, .mv (.t 41)⟩])
 (.seq (.regd [⟨some 42, none, .mv (.t 0)⟩,
 ⟨some 43, none, .mv (.t 4)⟩,
 ⟨some 44, none, .bin .sub (.t 43) (.c (.i .i64 1))⟩,
 ⟨some 45, none, .mv (.t 0)⟩,
 ⟨some 46, none, .mv (.t 4)⟩,
 ⟨some 47, none, .bin .sub (.t 46) (.c (.i .i64 2))⟩,
 ⟨some 48, none, .mv (.t 9)⟩,
 ⟨some 49, none, .bin .add (.t 48) (.c (.i .u32 1))⟩,
 ⟨some 50, none, .ixs (.c (.s ⟨#[48, 48, 48, 49, 48, 50, 48, 51, 48, 52, 48, 53, 48, 54, 48, 55, 48, 56, 48, 57, 49, 48, 49, 49, 49, 50, 49, 51, 49, 52, 49, 53, 49, 54, 49, 55, 49, 56, 49, 57, 50, 48, 50, 49, 50, 50, 50, 51, 50, 52, 50, 53, 50, 54, 50, 55, 50, 56, 50, 57, 51, 48, 51, 49, 51, 50, 51, 51, 51, 52, 51, 53, 51, 54, 51, 55, 51, 56, 51, 57, 52, 48, 52, 49, 52, 50, 52, 51, 52, 52, 52, 53, 52, 54, 52, 55, 52, 56, 52, 57, 53, 48, 53, 49, 53, 50, 53, 51, 53, 52, 53, 53, 53, 54, 53, 55, 53, 56, 53, 57, 54, 48, 54, 49, 54, 50, 54, 51, 54, 52, 54, 53, 54, 54, 54, 55, 54, 56, 54, 57, 55, 48, 55, 49, 55, 50, 55, 51, 55, 52, 55, 53, 55, 54, 55, 55, 55, 56, 55, 57, 56, 48, 56, 49, 56, 50, 56, 51, 56, 52, 56, 53, 56, 54, 56, 55, 56, 56, 56, 57, 57, 48, 57, 49, 57, 50, 57, 51, 57, 52, 57, 53, 57, 54, 57, 55, 57, 56, 57, 57]⟩)) (.t 49)⟩,
 ⟨some 51, none, .mv (.t 9)⟩,
 ⟨some 52, none, .ixs (.c (.s ⟨#[48, 48, 48, 49, 48, 50, 48, 51, 48, 52, 48, 53, 48, 54, 48, 55, 48, 56, 48, 57, 49, 48, 49, 49, 49, 50, 49, 51, 49, 52, 49, 53, 49, 54, 49, 55, 49, 56, 49, 57, 50, 48, 50, 49, 50, 50, 50, 51, 50, 52, 50, 53, 50, 54, 50, 55, 50, 56, 50, 57, 51, 48, 51, 49, 51, 50, 51, 51, 51, 52, 51, 53, 51, 54, 51, 55, 51, 56, 51, 57, 52, 48, 52, 49, 52, 50, 52, 51, 52, 52, 52, 53, 52, 54, 52, 55, 52, 56, 52, 57, 53, 48, 53, 49, 53, 50, 53, 51, 53, 52, 53, 53, 53, 54, 53, 55, 53, 56, 53, 57, 54, 48, 54, 49, 54, 50, 54, 51, 54, 52, 54, 53, 54, 54, 54, 55, 54, 56, 54, 57, 55, 48, 55, 49, 55, 50, 55, 51, 55, 52, 55, 53, 55, 54, 55, 55, 55, 56, 55, 57, 56, 48, 56, 49, 56, 50, 56, 51, 56, 52, 56, 53, 56, 54, 56, 55, 56, 56, 56, 57, 57, 48, 57, 49, 57, 50, 57, 51, 57, 52, 57, 53, 57, 54, 57, 55, 57, 56, 57, 57]⟩)) (.t 51)⟩,
 ⟨some 53, none, .ia 1 (.t 42) (.t 44)⟩,
 ⟨none, none, .st 1 (.t 53) (.t 50)⟩,
 ⟨some 54, none, .ia 1 (.t 45) (.t 47)⟩,
 ⟨none, none, .st 1 (.t 54) (.t 52)⟩] [])
 (.seq (.regd [⟨some 55, none, .mv (.t 0)⟩,
 ⟨some 56, none, .mv (.t 4)⟩,
 ⟨some 57, none, .bin .sub (.t 56) (.c (.i .i64 3))⟩,
 ⟨some 58, none, .mv (.t 0)⟩,
 ⟨some 59, none, .mv (.t 4)⟩,
 ⟨some 60, none, .bin .sub (.t 59) (.c (.i .i64 4))⟩,
 ⟨some 61, none, .mv (.t 8)⟩,
 ⟨some 62, none, .bin .add (.t 61) (.c (.i .u32 1))⟩,
 ⟨some 63, none, .ixs (.c (.s ⟨#[48, 48, 48, 49, 48, 50, 48, 51, 48, 52, 48, 53, 48, 54, 48, 55, 48, 56, 48, 57, 49, 48, 49, 49, 49, 50, 49, 51, 49, 52, 49, 53, 49, 54, 49, 55, 49, 56, 49, 57, 50, 48, 50, 49, 50, 50, 50, 51, 50, 52, 50, 53, 50, 54, 50, 55, 50, 56, 50, 57, 51, 48, 51, 49, 51, 50, 51, 51, 51, 52, 51, 53, 51, 54, 51, 55, 51, 56, 51, 57, 52, 48, 52, 49, 52, 50, 52, 51, 52, 52, 52, 53, 52, 54, 52, 55, 52, 56, 52, 57, 53, 48, 53, 49, 53, 50, 53, 51, 53, 52, 53, 53, 53, 54, 53, 55, 53, 56, 53, 57, 54, 48, 54, 49, 54, 50, 54, 51, 54, 52, 54, 53, 54, 54, 54, 55, 54, 56, 54, 57, 55, 48, 55, 49, 55, 50, 55, 51, 55, 52, 55, 53, 55, 54, 55, 55, 55, 56, 55, 57, 56, 48, 56, 49, 56, 50, 56, 51, 56, 52, 56, 53, 56, 54, 56, 55, 56, 56, 56, 57, 57, 48, 57, 49, 57, 50, 57, 51, 57, 52, 57, 53, 57, 54, 57, 55, 57, 56, 57, 57]⟩)) (.t 62)⟩,
 ⟨some 64, none, .mv (.t 8)⟩,
 ⟨some 65, none, .ixs (.c (.s ⟨#[48, 48, 48, 49, 48, 50, 48, 51, 48, 52, 48, 53, 48, 54, 48, 55, 48, 56, 48, 57, 49, 48, 49, 49, 49, 50, 49, 51, 49, 52, 49, 53, 49, 54, 49, 55, 49, 56, 49, 57, 50, 48, 50, 49, 50, 50, 50, 51, 50, 52, 50, 53, 50, 54, 50, 55, 50, 56, 50, 57, 51, 48, 51, 49, 51, 50, 51, 51, 51, 52, 51, 53, 51, 54, 51, 55, 51, 56, 51, 57, 52, 48, 52, 49, 52, 50, 52, 51, 52, 52, 52, 53, 52, 54, 52, 55, 52, 56, 52, 57, 53, 48, 53, 49, 53, 50, 53, 51, 53, 52, 53, 53, 53, 54, 53, 55, 53, 56, 53, 57, 54, 48, 54, 49, 54, 50, 54, 51, 54, 52, 54, 53, 54, 54, 54, 55, 54, 56, 54, 57, 55, 48, 55, 49, 55, 50, 55, 51, 55, 52, 55, 53, 55, 54, 55, 55, 55, 56, 55, 57, 56, 48, 56, 49, 56, 50, 56, 51, 56, 52, 56, 53, 56, 54, 56, 55, 56, 56, 56, 57, 57, 48, 57, 49, 57, 50, 57, 51, 57, 52, 57, 53, 57, 54, 57, 55, 57, 56, 57, 57]⟩)) (.t 64)⟩,
 ⟨some 66, none, .ia 1 (.t 55) (.t 57)⟩,
 ⟨none, none, .st 1 (.t 66) (.t 63)⟩,
 ⟨some 67, none, .ia 1 (.t 58) (.t 60)⟩,
 ⟨none, none, .st 1 (.t 67) (.t 65)⟩] [])
 (.seq (.regd [⟨some 68, none, .mv (.t 0)⟩,
 ⟨some 69, none, .mv (.t 4)⟩,
 ⟨some 70, none, .bin .sub (.t 69) (.c (.i .i64 5))⟩,
 ⟨some 71, none, .mv (.t 0)⟩,
 ⟨some 72, none, .mv (.t 4)⟩,
 ⟨some 73, none, .bin .sub (.t 72) (.c (.i .i64 6))⟩,
 ⟨some 74, none, .mv (.t 11)⟩,
 ⟨some 75, none, .bin .add (.t 74) (.c (.i .u32 1))⟩,
 ⟨some 76, none, .ixs (.c (.s ⟨#[48, 48, 48, 49, 48, 50, 48, 51, 48, 52, 48, 53, 48, 54, 48, 55, 48, 56, 48, 57, 49, 48, 49, 49, 49, 50, 49, 51, 49, 52, 49, 53, 49, 54, 49, 55, 49, 56, 49, 57, 50, 48, 50, 49, 50, 50, 50, 51, 50, 52, 50, 53, 50, 54, 50, 55, 50, 56, 50, 57, 51, 48, 51, 49, 51, 50, 51, 51, 51, 52, 51, 53, 51, 54, 51, 55, 51, 56, 51, 57, 52, 48, 52, 49, 52, 50, 52, 51, 52, 52, 52, 53, 52, 54, 52, 55, 52, 56, 52, 57, 53, 48, 53, 49, 53, 50, 53, 51, 53, 52, 53, 53, 53, 54, 53, 55, 53, 56, 53, 57, 54, 48, 54, 49, 54, 50, 54, 51, 54, 52, 54, 53, 54, 54, 54, 55, 54, 56, 54, 57, 55, 48, 55, 49, 55, 50, 55, 51, 55, 52, 55, 53, 55, 54, 55, 55, 55, 56, 55, 57, 56, 48, 56, 49, 56, 50, 56, 51, 56, 52, 56, 53, 56, 54, 56, 55, 56, 56, 56, 57, 57, 48, 57, 49, 57, 50, 57, 51, 57, 52, 57, 53, 57, 54, 57, 55, 57, 56, 57, 57]⟩)) (.t 75)⟩,
 ⟨some 77, none, .mv (.t 11)⟩,
 ⟨some 78, none, .ixs (.c (.s ⟨#[48, 48, 48, 49, 48, 50, 48, 51, 48, 52, 48, 53, 48, 54, 48, 55, 48, 56, 48, 57, 49, 48, 49, 49, 49, 50, 49, 51, 49, 52, 49, 53, 49, 54, 49, 55, 49, 56, 49, 57, 50, 48, 50, 49, 50, 50, 50, 51, 50, 52, 50, 53, 50, 54, 50, 55, 50, 56, 50, 57, 51, 48, 51, 49, 51, 50, 51, 51, 51, 52, 51, 53, 51, 54, 51, 55, 51, 56, 51, 57, 52, 48, 52, 49, 52, 50, 52, 51, 52, 52, 52, 53, 52, 54, 52, 55, 52, 56, 52, 57, 53, 48, 53, 49, 53, 50, 53, 51, 53, 52, 53, 53, 53, 54, 53, 55, 53, 56, 53, 57, 54, 48, 54, 49, 54, 50, 54, 51, 54, 52, 54, 53, 54, 54, 54, 55, 54, 56, 54, 57, 55, 48, 55, 49, 55, 50, 55, 51, 55, 52, 55, 53, 55, 54, 55, 55, 55, 56, 55, 57, 56, 48, 56, 49, 56, 50, 56, 51, 56, 52, 56, 53, 56, 54, 56, 55, 56, 56, 56, 57, 57, 48, 57, 49, 57, 50, 57, 51, 57, 52, 57, 53, 57, 54, 57, 55, 57, 56, 57, 57]⟩)) (.t 77)⟩,
 ⟨some 79, none, .ia 1 (.t 68) (.t 70)⟩,
 ⟨none, none, .st 1 (.t 79) (.t 76)⟩,
 ⟨some 80, none, .ia 1 (.t 71) (.t 73)⟩,
 ⟨none, none, .st 1 (.t 80) (.t 78)⟩] [])
 (.seq (.regd [⟨some 81, none, .mv (.t 0)⟩,
 ⟨some 82, none, .mv (.t 4)⟩,
 ⟨some 83, none, .bin .sub (.t 82) (.c (.i .i64 7))⟩,
 ⟨some 84, none, .mv (.t 0)⟩,
 ⟨some 85, none, .mv (.t 4)⟩,
 ⟨some 86, none, .bin .sub (.t 85) (.c (.i .i64 8))⟩,
 ⟨some 87, none, .mv (.t 10)⟩,
 ⟨some 88, none, .bin .add (.t 87) (.c (.i .u32 1))⟩,
 ⟨some 89, none, .ixs (.c (.s ⟨#[48, 48, 48, 49, 48, 50, 48, 51, 48, 52, 48, 53, 48, 54, 48, 55, 48, 56, 48, 57, 49, 48, 49, 49, 49, 50, 49, 51, 49, 52, 49, 53, 49, 54, 49, 55, 49, 56, 49, 57, 50, 48, 50, 49, 50, 50, 50, 51, 50, 52, 50, 53, 50, 54, 50, 55, 50, 56, 50, 57, 51, 48, 51, 49, 51, 50, 51, 51, 51, 52, 51, 53, 51, 54, 51, 55, 51, 56, 51, 57, 52, 48, 52, 49, 52, 50, 52, 51, 52, 52, 52, 53, 52, 54, 52, 55, 52, 56, 52, 57, 53, 48, 53, 49, 53, 50, 53, 51, 53, 52, 53, 53, 53, 54, 53, 55, 53, 56, 53, 57, 54, 48, 54, 49, 54, 50, 54, 51, 54, 52, 54, 53, 54, 54, 54, 55, 54, 56, 54, 57, 55, 48, 55, 49, 55, 50, 55, 51, 55, 52, 55, 53, 55, 54, 55, 55, 55, 56, 55, 57, 56, 48, 56, 49, 56, 50, 56, 51, 56, 52, 56, 53, 56, 54, 56, 55, 56, 56, 56, 57, 57, 48, 57, 49, 57, 50, 57, 51, 57, 52, 57, 53, 57, 54, 57, 55, 57, 56, 57, 57]⟩)) (.t 88)⟩,
 ⟨some 90, none, .mv (.t 10)⟩,
 ⟨some 91, none, .ixs (.c (.s ⟨#[48, 48, 48, 49, 48, 50, 48, 51, 48, 52, 48, 53, 48, 54, 48, 55, 48, 56, 48, 57, 49, 48, 49, 49, 49, 50, 49, 51, 49, 52, 49, 53, 49, 54, 49, 55, 49, 56, 49, 57, 50, 48, 50, 49, 50, 50, 50, 51, 50, 52, 50, 53, 50, 54, 50, 55, 50, 56, 50, 57, 51, 48, 51, 49, 51, 50, 51, 51, 51, 52, 51, 53, 51, 54, 51, 55, 51, 56, 51, 57, 52, 48, 52, 49, 52, 50, 52, 51, 52, 52, 52, 53, 52, 54, 52, 55, 52, 56, 52, 57, 53, 48, 53, 49, 53, 50, 53, 51, 53, 52, 53, 53, 53, 54, 53, 55, 53, 56, 53, 57, 54, 48, 54, 49, 54, 50, 54, 51, 54, 52, 54, 53, 54, 54, 54, 55, 54, 56, 54, 57, 55, 48, 55, 49, 55, 50, 55, 51, 55, 52, 55, 53, 55, 54, 55, 55, 55, 56, 55, 57, 56, 48, 56, 49, 56, 50, 56, 51, 56, 52, 56, 53, 56, 54, 56, 55, 56, 56, 56, 57, 57, 48, 57, 49, 57, 50, 57, 51, 57, 52, 57, 53, 57, 54, 57, 55, 57, 56, 57, 57]⟩)) (.t 90)⟩,
 ⟨some 92, none, .ia 1 (.t 81) (.t 83)⟩,
 ⟨none, none, .st 1 (.t 92) (.t 89)⟩,
 ⟨some 93, none, .ia 1 (.t 84) (.t 86)⟩,
 ⟨none, none, .st 1 (.t 93) (.t 91)⟩] [])
 (.reg [⟨some 94, none, .mv (.t 4)⟩,
 ⟨some 95, none, .bin .sub (.t 94) (.c (.i .i64 8))⟩,
 ⟨some 4, none, .mv (.t 95)⟩]))))))))))))))
 (.seq (.reg [⟨some 96, none, .mv (.t 1)⟩,
 ⟨some 97, none, .cvi .u32 (.t 96)⟩,
 ⟨some 12, none, .mv (.t 97)⟩])
 (.seq (.seq (.reg [⟨some 98, none, .mv (.t 4)⟩,
 ⟨some 99, none, .bin .geq (.t 98) (.c (.i .i64 4))⟩])
 (.cond (.t 99) (.seq (.reg [⟨some 100, none, .mv (.t 12)⟩,
 ⟨some 101, none, .bin .rem (.t 100) (.c (.i .u32 10000))⟩,
 ⟨some 13, none, .mv (.t 101)⟩])
 (.seq (.reg [⟨some 102, none, .mv (.t 12)⟩,
 ⟨some 103, none, .bin .quo (.t 102) (.c (.i .u32 10000))⟩,
 ⟨some 12, none, .mv (.t 103)⟩])
 (.seq (.reg [⟨some 104, none, .mv (.t 13)⟩,
 ⟨some 105, none, .bin .quo (.t 104) (.c (.i .u32 100))⟩,
 ⟨some 106, none, .bin .mul (.t 105) (.c (.i .u32 2))⟩,
 ⟨some 107, none, .mv (.t 13)⟩,
 ⟨some 108, none, .bin .rem (.t 107) (.c (.i .u32 100))⟩,
 ⟨some 109, none, .bin .mul (.t 108) (.c (.i .u32 2))⟩,
 ⟨some 14, none, .mv (.t 106)⟩,
 ⟨some 15, none, .mv (.t 109)⟩])
 (.seq (.regd [⟨some 110, none, .mv (.t 0)⟩,
 ⟨some 111, none, .mv (.t 4)⟩,
 ⟨some 112, none, .bin .sub (.t 111) (.c (.i .i64 1))⟩,
 ⟨some 113, none, .mv (.t 0)⟩,
 ⟨some 114, none, .mv (.t 4)⟩,
 ⟨some 115, none, .bin .sub (.t 114) (.c (.i .i64 2))⟩,
 ⟨some 116, none, .mv (.t 15)⟩,
 ⟨some 117, none, .bin .add (.t 116) (.c (.i .u32 1))⟩,
 ⟨some 118, none, .ixs (.c (.s ⟨#[48, 48, 48, 49, 48, 50, 48, 51, 48, 52, 48, 53, 48, 54, 48, 55, 48, 56, 48, 57, 49, 48, 49, 49, 49, 50, 49, 51, 49, 52, 49, 53, 49, 54, 49, 55, 49, 56, 49, 57, 50, 48, 50, 49, 50, 50, 50, 51, 50, 52, 50, 53, 50, 54, 50, 55, 50, 56, 50, 57, 51, 48, 51, 49, 51, 50, 51, 51, 51, 52, 51, 53, 51, 54, 51, 55, 51, 56, 51, 57, 52, 48, 52, 49, 52, 50, 52, 51, 52, 52, 52, 53, 52, 54, 52, 55, 52, 56, 52, 57, 53, 48, 53, 49, 53, 50, 53, 51, 53, 52, 53, 53, 53, 54, 53, 55, 53, 56, 53, 57, 54, 48, 54, 49, 54, 50, 54, 51, 54, 52, 54, 53, 54, 54, 54, 55, 54, 56, 54, 57, 55, 48, 55, 49, 55, 50, 55, 51, 55, 52, 55, 53, 55, 54, 55, 55, 55, 56, 55, 57, 56, 48, 56, 49, 56, 50, 56, 51, 56, 52, 56, 53, 56, 54, 56, 55, 56, 56, 56, 57, 57, 48, 57, 49, 57, 50, 57, 51, 57, 52, 57, 53, 57, 54, 57, 55, 57, 56, 57, 57]⟩)) (.t 117)⟩,
 ⟨some 119, none, .mv (.t 15)⟩,
 ⟨some 120, none, .ixs (.c (.s ⟨#[48, 48, 48, 49, 48, 50, 48, 51, 48, 52, 48, 53, 48, 54, 48, 55, 48, 56, 48, 57, 49, 48, 49, 49, 49, 50, 49, 51, 49, 52, 49, 53, 49, 54, 49, 55, 49, 56, 49, 57, 50, 48, 50, 49, 50, 50, 50, 51, 50, 52, 50, 53, 50, 54, 50, 55, 50, 56, 50, 57, 51, 48, 51, 49, 51, 50, 51, 51, 51, 52, 51, 53, 51, 54, 51, 55, 51, 56, 51, 57, 52, 48, 52, 49, 52, 50, 52, 51, 52, 52, 52, 53, 52, 54, 52, 55, 52, 56, 52, 57, 53, 48, 53, 49, 53, 50, 53, 51, 53, 52, 53, 53, 53, 54, 53, 55, 53, 56, 53, 57, 54, 48, 54, 49, 54, 50, 54, 51, 54, 52, 54, 53, 54, 54, 54, 55, 54, 56, 54, 57, 55, 48, 55, 49, 55, 50, 55, 51, 55, 52, 55, 53, 55, 54, 55, 55, 55, 56, 55, 57, 56, 48, 56, 49, 56, 50, 56, 51, 56, 52, 56, 53, 56, 54, 56, 55, 56, 56, 56, 57, 57, 48, 57, 49, 57, 50, 57, 51, 57, 52, 57, 53, 57, 54, 57, 55, 57, 56, 57, 57]⟩)) (.t 119)⟩,
 ⟨some 121, none, .ia 1 (.t 110) (.t 112)⟩,
 ⟨none, none, .st 1 (.t 121) (.t 118)⟩,
 ⟨some 122, none, .ia 1 (.t 113) (.t 115)⟩,
 ⟨none, none, .st 1 (.t 122) (.t 120)⟩] [])
 (.seq (.regd [⟨some 123, none, .mv (.t 0)⟩,
 ⟨some 124, none, .mv (.t 4)⟩,
 ⟨some 125, none, .bin .sub (.t 124) (.c (.i .i64 3))⟩,
 ⟨some 126, none, .mv (.t 0)⟩,
 ⟨some 127, none, .mv (.t 4)⟩,
 ⟨some 128, none, .bin .sub (.t 127) (.c (.i .i64 4))⟩,
 ⟨some 129, none, .mv (.t 14)⟩,
 ⟨some 130, none, .bin .add (.t 129) (.c (.i .u32 1))⟩,
 ⟨some 131, none, .ixs (.c (.s ⟨#[48, 48, 48, 49, 48, 50, 48, 51, 48, 52, 48, 53, 48, 54, 48, 55, 48, 56, 48, 57, 49, 48, 49, 49, 49, 50, 49, 51, 49, 52, 49, 53, 49, 54, 49, 55, 49, 56, 49, 57, 50, 48, 50, 49, 50, 50, 50, 51, 50, 52, 50, 53, 50, 54, 50, 55, 50, 56, 50, 57, 51, 48, 51, 49, 51, 50, 51, 51, 51, 52, 51, 53, 51, 54, 51, 55, 51, 56, 51, 57, 52, 48, 52, 49, 52, 50, 52, 51, 52, 52, 52, 53, 52, 54, 52, 55, 52, 56, 52, 57, 53, 48, 53, 49, 53, 50, 53, 51, 53, 52, 53, 53, 53, 54, 53, 55, 53, 56, 53, 57, 54, 48, 54, 49, 54, 50, 54, 51, 54, 52, 54, 53, 54, 54, 54, 55, 54, 56, 54, 57, 55, 48, 55, 49, 55, 50, 55, 51, 55, 52, 55, 53, 55, 54, 55, 55, 55, 56, 55, 57, 56, 48, 56, 49, 56, 50, 56, 51, 56, 52, 56, 53, 56, 54, 56, 55, 56, 56, 56, 57, 57, 48, 57, 49, 57, 50, 57, 51, 57, 52, 57, 53, 57, 54, 57, 55, 57, 56, 57, 57]⟩)) (.t 130)⟩,
 ⟨some 132, none, .mv (.t 14)⟩,
 ⟨some 133, none, .ixs (.c (.s ⟨#[48, 48, 48, 49, 48, 50, 48, 51, 48, 52, 48, 53, 48, 54, 48, 55, 48, 56, 48, 57, 49, 48, 49, 49, 49, 50, 49, 51, 49, 52, 49, 53, 49, 54, 49, 55, 49, 56, 49, 57, 50, 48, 50, 49, 50, 50, 50, 51, 50, 52, 50, 53, 50, 54, 50, 55, 50, 56, 50, 57, 51, 48, 51, 49, 51, 50, 51, 51, 51, 52, 51, 53, 51, 54, 51, 55, 51, 56, 51, 57, 52, 48, 52, 49, 52, 50, 52, 51, 52, 52, 52, 53, 52, 54, 52, 55, 52, 56, 52, 57, 53, 48, 53, 49, 53, 50, 53, 51, 53, 52, 53, 53, 53, 54, 53, 55, 53, 56, 53, 57, 54, 48, 54, 49, 54, 50, 54, 51, 54, 52, 54, 53, 54, 54, 54, 55, 54, 56, 54, 57, 55, 48, 55, 49, 55, 50, 55, 51, 55, 52, 55, 53, 55, 54, 55, 55, 55, 56, 55, 57, 56, 48, 56, 49, 56, 50, 56, 51, 56, 52, 56, 53, 56, 54, 56, 55, 56, 56, 56, 57, 57, 48, 57, 49, 57, 50, 57, 51, 57, 52, 57, 53, 57, 54, 57, 55, 57, 56, 57, 57]⟩)) (.t 132)⟩,
 ⟨some 134, none, .ia 1 (.t 123) (.t 125)⟩,
 ⟨none, none, .st 1 (.t 134) (.t 131)⟩,
 ⟨some 135, none, .ia 1 (.t 126) (.t 128)⟩,
 ⟨none, none, .st 1 (.t 135) (.t 133)⟩] [])
 (.reg [⟨some 136, none, .mv (.t 4)⟩,
 ⟨some 137, none, .bin .sub (.t 136) (.c (.i .i64 4))⟩,
 ⟨some 4, none, .mv (.t 137)⟩]))))))
 (.skip)))
 (.seq (.seq (.reg [⟨some 138, none, .mv (.t 4)⟩,
 ⟨some 139, none, .bin .geq (.t 138) (.c (.i .i64 2))⟩])
 (.cond (.t 139) (.seq (.reg [⟨some 140, none, .mv (.t 12)⟩,
 ⟨some 141, none, .bin .rem (.t 140) (.c (.i .u32 100))⟩,
 ⟨some 142, none, .bin .mul (.t 141) (.c (.i .u32 2))⟩,
 ⟨some 16, none, .mv (.t 142)⟩])
 (.seq (.reg [⟨some 143, none, .mv (.t 12)⟩,
 ⟨some 144, none, .bin .quo (.t 143) (.c (.i .u32 100))⟩,
 ⟨some 12, none, .mv (.t 144)⟩])
 (.seq (.regd [⟨some 145, none, .mv (.t 0)⟩,
 ⟨some 146, none, .mv (.t 4)⟩,
 ⟨some 147, none, .bin .sub (.t 146) (.c (.i .i64 1))⟩,
 ⟨some 148, none, .mv (.t 0)⟩,
 ⟨some 149, none, .mv (.t 4)⟩,
 ⟨some 150, none, .bin .sub (.t 149) (.c (.i .i64 2))⟩,
 ⟨some 151, none, .mv (.t 16)⟩,
 ⟨some 152, none, .bin .add (.t 151) (.c (.i .u32 1))⟩,
 ⟨some 153, none, .ixs (.c (.s ⟨#[48, 48, 48, 49, 48, 50, 48, 51, 48, 52, 48, 53, 48, 54, 48, 55, 48, 56, 48, 57, 49, 48, 49, 49, 49, 50, 49, 51, 49, 52, 49, 53, 49, 54, 49, 55, 49, 56, 49, 57, 50, 48, 50, 49, 50, 50, 50, 51, 50, 52, 50, 53, 50, 54, 50, 55, 50, 56, 50, 57, 51, 48, 51, 49, 51, 50, 51, 51, 51, 52, 51, 53, 51, 54, 51, 55, 51, 56, 51, 57, 52, 48, 52, 49, 52, 50, 52, 51, 52, 52, 52, 53, 52, 54, 52, 55, 52, 56, 52, 57, 53, 48, 53, 49, 53, 50, 53, 51, 53, 52, 53, 53, 53, 54, 53, 55, 53, 56, 53, 57, 54, 48, 54, 49, 54, 50, 54, 51, 54, 52, 54, 53, 54, 54, 54, 55, 54, 56, 54, 57, 55, 48, 55, 49, 55, 50, 55, 51, 55, 52, 55, 53, 55, 54, 55, 55, 55, 56, 55, 57, 56, 48, 56, 49, 56, 50, 56, 51, 56, 52, 56, 53, 56, 54, 56, 55, 56, 56, 56, 57, 57, 48, 57, 49, 57, 50, 57, 51, 57, 52, 57, 53, 57, 54, 57, 55, 57, 56, 57, 57]⟩)) (.t 152)⟩,
 ⟨some 154, none, .mv (.t 16)⟩,
 ⟨some 155, none, .ixs (.c (.s ⟨#[48, 48, 48, 49, 48, 50, 48, 51, 48, 52, 48, 53, 48, 54, 48, 55, 48, 56, 48, 57, 49, 48, 49, 49, 49, 50, 49, 51, 49, 52, 49, 53, 49, 54, 49, 55, 49, 56, 49, 57, 50, 48, 50, 49, 50, 50, 50, 51, 50, 52, 50, 53, 50, 54, 50, 55, 50, 56, 50, 57, 51, 48, 51, 49, 51, 50, 51, 51, 51, 52, 51, 53, 51, 54, 51, 55, 51, 56, 51, 57, 52, 48, 52, 49, 52, 50, 52, 51, 52, 52, 52, 53, 52, 54, 52, 55, 52, 56, 52, 57, 53, 48, 53, 49, 53, 50, 53, 51, 53, 52, 53, 53, 53, 54, 53, 55, 53, 56, 53, 57, 54, 48, 54, 49, 54, 50, 54, 51, 54, 52, 54, 53, 54, 54, 54, 55, 54, 56, 54, 57, 55, 48, 55, 49, 55, 50, 55, 51, 55, 52, 55, 53, 55, 54, 55, 55, 55, 56, 55, 57, 56, 48, 56, 49, 56, 50, 56, 51, 56, 52, 56, 53, 56, 54, 56, 55, 56, 56, 56, 57, 57, 48, 57, 49, 57, 50, 57, 51, 57, 52, 57, 53, 57, 54, 57, 55, 57, 56, 57, 57]⟩)) (.t 154)⟩,
 ⟨some 156, none, .ia 1 (.t 145) (.t 147)⟩,
 ⟨none, none, .st 1 (.t 156) (.t 153)⟩,
 ⟨some 157, none, .ia 1 (.t 148) (.t 150)⟩,
 ⟨none, none, .st 1 (.t 157) (.t 155)⟩] [])
 (.reg [⟨some 158, none, .mv (.t 4)⟩,
 ⟨some 159, none, .bin .sub (.t 158) (.c (.i .i64 2))⟩,
 ⟨some 4, none, .mv (.t 159)⟩]))))
 (.skip)))
 (.seq (.reg [⟨some 160, none, .mv (.t 4)⟩,
 ⟨some 161, none, .bin .gtr (.t 160) (.c (.i .i64 0))⟩])
 (.cond (.t 161) (.reg [⟨some 162, none, .mv (.t 0)⟩,
 ⟨some 163, none, .mv (.t 12)⟩,
 ⟨some 164, none, .bin .add (.c (.i .u32 48)) (.t 163)⟩,
 ⟨some 165, none, .cvi .u8 (.t 164)⟩,
 ⟨some 166, none, .ia 1 (.t 162) (.c (.i .i64 0))⟩,
 ⟨none, none, .st 1 (.t 166) (.t 165)⟩])
 (.skip)))))))
theorem fn197 : fnOf Tryz.prog Tryz.prog.globals.size ext 197 = .go 167 [] v197 := by rw [fnOf, Tryz.func197]; kernel_rfl

/-- internal/strconv.formatBits -/
def v198 : VC :=
.seq (.reg [⟨some 10, none, .mv (.c (.sl none 0 0 true))⟩,
 ⟨some 11, none, .mv (.c (.s ⟨#[]⟩))⟩])
 (.seq (.seq (.reg [⟨some 19, none, .mv (.t 2)⟩,
 ⟨some 20, none, .bin .lss (.t 19) (.c (.i .i64 2))⟩,
 ⟨some 21, none, .mv (.t 20)⟩,
 ⟨some 22, some (21, false), .mv (.t 2)⟩,
 ⟨some 23, some (21, false), .bin .eql (.t 22) (.c (.i .i64 10))⟩,
 ⟨some 24, none, .pick (.t 21) (.c (.b true)) (.t 23)⟩,
 ⟨some 25, none, .mv (.t 24)⟩,
 ⟨some 26, some (25, false), .mv (.t 2)⟩,
 ⟨some 27, some (25, false), .bin .gtr (.t 26) (.c (.i .i64 36))⟩,
 ⟨some 28, none, .pick (.t 25) (.c (.b true)) (.t 27)⟩])
 (.cond (.t 28) (.reg [⟨some 29, none, .mif 9 (.c (.s ⟨#[115, 116, 114, 99, 111, 110, 118, 58, 32, 105, 108, 108, 101, 103, 97, 108, 32, 65, 112, 112, 101, 110, 100, 73, 110, 116, 47, 70, 111, 114, 109, 97, 116, 73, 110, 116, 32, 98, 97, 115, 101]⟩))⟩,
 ⟨none, none, .bad⟩])
 (.skip)))
 (.seq (.reg [⟨some 12, none, .alloc 314 [(.i .u8 0), (.i .u8 0), (.i .u8 0), (.i .u8 0), (.i .u8 0), (.i .u8 0), (.i .u8 0), (.i .u8 0), (.i .u8 0), (.i .u8 0), (.i .u8 0), (.i .u8 0), (.i .u8 0), (.i .u8 0), (.i .u8 0), (.i .u8 0), (.i .u8 0), (.i .u8 0), (.i .u8 0), (.i .u8 0), (.i .u8 0), (.i .u8 0), (.i .u8 0), (.i .u8 0), (.i .u8 0), (.i .u8 0), (.i .u8 0), (.i .u8 0), (.i .u8 0), (.i .u8 0), (.i .u8 0), (.i .u8 0), (.i .u8 0), (.i .u8 0), (.i .u8 0), (.i .u8 0), (.i .u8 0), (.i .u8 0), (.i .u8 0), (.i .u8 0), (.i .u8 0), (.i .u8 0), (.i .u8 0), (.i .u8 0), (.i .u8 0), (.i .u8 0), (.i .u8 0), (.i .u8 0), (.i .u8 0), (.i .u8 0), (.i .u8 0), (.i .u8 0), (.i .u8 0), (.i .u8 0), (.i .u8 0), (.i .u8 0), (.i .u8 0), (.i .u8 0), (.i .u8 0), (.i .u8 0), (.i .u8 0), (.i .u8 0), (.i .u8 0), (.i .u8 0), (.i .u8 0)]⟩])
 (.seq (.reg [⟨some 13, none, .mv (.c (.i .i64 65))⟩])
 (.seq (.seq (.reg [⟨some 30, none, .mv (.t 3)⟩])
 (.cond (.t 30) (.reg [⟨some 31, none, .mv (.t 1)⟩,
 ⟨some 32, none, .un .neg (.t 31)⟩,
 ⟨some 1, none, .mv (.t 32)⟩])
 (.skip)))
 (.seq (.seq (.reg [⟨some 33, none, .mv (.t 2)⟩,
 ⟨some 34, none, .call 231 [(.t 33)]⟩])
 (.cond (.t 34) (.seq (.reg [⟨some 35, none, .mv (.t 2)⟩,
 ⟨some 36, none, .cvi .u64 (.t 35)⟩,
 ⟨some 37, none, .call 232 [(.t 36)]⟩,
 ⟨some 38, none, .cvi .u64 (.t 37)⟩,
 ⟨some 14, none, .mv (.t 38)⟩])
 (.seq (.reg [⟨some 39, none, .mv (.t 2)⟩,
 ⟨some 40, none, .cvi .u64 (.t 39)⟩,
 ⟨some 15, none, .mv (.t 40)⟩])
 (.seq (.reg [⟨some 41, none, .mv (.t 2)⟩,
 ⟨some 42, none, .cvi .u64 (.t 41)⟩,
 ⟨some 43, none, .bin .sub (.t 42) (.c (.i .u64 1))⟩,
 ⟨some 16, none, .mv (.t 43)⟩])
 (.seq (.blk 0 (.loop (.seq (.seq (.reg [⟨some 44, none, .mv (.t 1)⟩,
 ⟨some 45, none, .mv (.t 15)⟩,
 ⟨some 46, none, .bin .geq (.t 44) (.t 45)⟩])
 (.cond (.t 46) (.skip)
 (.exit 0)))
 (.blk 1 (.seq (.reg [⟨some 47, none, .mv (.t 13)⟩,
 ⟨some 48, none, .bin .sub (.t 47) (.c (.i .i64 1))⟩,
 ⟨some 13, none, .mv (.t 48)⟩])
 (.seq (.reg [⟨some 49, none, .mv (.t 13)⟩,
 ⟨some 50, none, .mv (.t 1)⟩,
 ⟨some 51, none, .mv (.t 16)⟩,
 ⟨some 52, none, .bin .and (.t 50) (.t 51)⟩,
 ⟨some 53, none, .ixs (.c (.s ⟨#[48, 49, 50, 51, 52, 53, 54, 55, 56, 57, 97, 98, 99, 100, 101, 102, 103, 104, 105, 106, 107, 108, 109, 110, 111, 112, 113, 114, 115, 116, 117, 118, 119, 120, 121, 122]⟩)) (.t 52)⟩,
 ⟨some 54, none, .iaA 65 1 (.t 12) (.t 49)⟩,
 ⟨none, none, .st 1 (.t 54) (.t 53)⟩])
 (.reg [⟨some 55, none, .mv (.t 1)⟩,
 ⟨some 56, none, .mv (.t 14)⟩,
 ⟨some 57, none, .bin .shr (.t 55) (.t 56)⟩,
 ⟨some 1, none, .mv (.t 57)⟩])))))))
 (.seq (.reg [⟨some 58, none, .mv (.t 13)⟩,
 ⟨some 59, none, .bin .sub (.t 58) (.c (.i .i64 1))⟩,
 ⟨some 13, none, .mv (.t 59)⟩])
 (.reg [⟨some 60, none, .mv (.t 13)⟩,
 ⟨some 61, none, .mv (.t 1)⟩,
 ⟨some 62, none, .ixs (.c (.s ⟨#[48, 49, 50, 51, 52, 53, 54, 55, 56, 57, 97, 98, 99, 100, 101, 102, 103, 104, 105, 106, 107, 108, 109, 110, 111, 112, 113, 114, 115, 116, 117, 118, 119, 120, 121, 122]⟩)) (.t 61)⟩,
 ⟨some 63, none, .iaA 65 1 (.t 12) (.t 60)⟩,
 ⟨none, none, .st 1 (.t 63) (.t 62)⟩]))))))
 (.seq (.reg [⟨some 64, none, .mv (.t 2)⟩,
 ⟨some 65, none, .cvi .u64 (.t 64)⟩,
 ⟨some 17, none, .mv (.t 65)⟩])
 (.seq (.blk 2 (.loop (.seq (.seq (.reg [⟨some 66, none, .mv (.t 1)⟩,
 ⟨some 67, none, .mv (.t 17)⟩,
 ⟨some 68, none, .bin .geq (.t 66) (.t 67)⟩])
 (.cond (.t 68) (.skip)
 (.exit 2)))
 (.blk 3 (.seq (.reg [⟨some 69, none, .mv (.t 13)⟩,
 ⟨some 70, none, .bin .sub (.t 69) (.c (.i .i64 1))⟩,
 ⟨some 13, none, .mv (.t 70)⟩])
 (.seq (.reg [⟨some 71, none, .mv (.t 1)⟩,
 ⟨some 72, none, .mv (.t 17)⟩,
 ⟨some 73, none, .bin .quo (.t 71) (.t 72)⟩,
 ⟨some 18, none, .mv (.t 73)⟩])
 (.seq (.reg [⟨some 74, none, .mv (.t 13)⟩,
 ⟨some 75, none, .mv (.t 1)⟩,
 ⟨some 76, none, .mv (.t 18)⟩,
 ⟨some 77, none, .mv (.t 17)⟩,
 ⟨some 78, none, .bin .mul (.t 76) (.t 77)⟩,
 ⟨some 79, none, .bin .sub (.t 75) (.t 78)⟩,
 ⟨some 80, none, .ixs (.c (.s ⟨#[48, 49, 50, 51, 52, 53, 54, 55, 56, 57, 97, 98, 99, 100, 101, 102, 103, 104, 105, 106, 107, 108, 109, 110, 111, 112, 113, 114, 115, 116, 117, 118, 119, 120, 121, 122]⟩)) (.t 79)⟩,
 ⟨some 81, none, .iaA 65 1 (.t 12) (.t 74)⟩,
 ⟨none, none, .st 1 (.t 81) (.t 80)⟩])
 (.reg [⟨some 82, none, .mv (.t 18)⟩,
 ⟨some 1, none, .mv (.t 82)⟩]))))))))
 (.seq (.reg [⟨some 83, none, .mv (.t 13)⟩,
 ⟨some 84, none, .bin .sub (.t 83) (.c (.i .i64 1))⟩,
 ⟨some 13, none, .mv (.t 84)⟩])
 (.reg [⟨some 85, none, .mv (.t 13)⟩,
 ⟨some 86, none, .mv (.t 1)⟩,
 ⟨some 87, none, .ixs (.c (.s ⟨#[48, 49, 50, 51, 52, 53, 54, 55, 56, 57, 97, 98, 99, 100, 101, 102, 103, 104, 105, 106, 107, 108, 109, 110, 111, 112, 113, 114, 115, 116, 117, 118, 119, 120, 121, 122]⟩)) (.t 86)⟩,
 ⟨some 88, none, .iaA 65 1 (.t 12) (.t 85)⟩,
 ⟨none, none, .st 1 (.t 88) (.t 87)⟩]))))))
 (.seq (.seq (.reg [⟨some 89, none, .mv (.t 3)⟩])
 (.cond (.t 89) (.seq (.reg [⟨some 90, none, .mv (.t 13)⟩,
 ⟨some 91, none, .bin .sub (.t 90) (.c (.i .i64 1))⟩,
 ⟨some 13, none, .mv (.t 91)⟩])
 (.reg [⟨some 92, none, .mv (.t 13)⟩,
 ⟨some 93, none, .iaA 65 1 (.t 12) (.t 92)⟩,
 ⟨none, none, .st 1 (.t 93) (.c (.i .u8 45))⟩]))
 (.skip)))
 (.seq (.seq (.reg [⟨some 94, none, .mv (.t 4)⟩])
 (.cond (.t 94) (.seq (.reg [⟨some 95, none, .mv (.t 0)⟩,
 ⟨some 96, none, .mv (.t 13)⟩,
 ⟨some 97, none, .sla 65 1 (.t 12) (some (.t 96)) none⟩,
 ⟨some 98, none, .app ⟨1, (some 5)⟩ 1 (.t 95) (.t 97)⟩,
 ⟨some 10, none, .mv (.t 98)⟩])
 (.ret))
 (.skip)))
 (.seq (.reg [⟨some 99, none, .mv (.t 13)⟩,
 ⟨some 100, none, .sla 65 1 (.t 12) (some (.t 99)) none⟩,
 ⟨some 101, none, .cvs (.t 100)⟩,
 ⟨some 11, none, .mv (.t 101)⟩])
 (.ret)))))))))
theorem fn198 : fnOf Tryz.prog Tryz.prog.globals.size ext 198 = .go 102 [.t 10, .t 11] v198 := by rw [fnOf, Tryz.func198]; kernel_rfl

/-- (*clew/parse.parser).row -/
def v199 : VC :=
.seq (.reg [⟨some 4, none, .alloc 251 [(.i .i64 0), (.i .i64 0), (.i .i64 0), (.i .i64 0), (.i .i64 0), (.i .i64 0), (.i .i64 0), (.s ⟨#[]⟩), (.sl none 0 0 true), (.sl none 0 0 true), (.sl none 0 0 true)]⟩])
 (.seq (.reg [⟨some 7, none, .mv (.t 0)⟩,
 ⟨some 8, none, .nc (.t 7)⟩,
 ⟨some 9, none, .fa 1 (.t 8)⟩,
 ⟨some 10, none, .ld (.t 9)⟩,
 ⟨some 5, none, .mv (.t 10)⟩])
 (.seq (.reg [⟨some 6, none, .mv (.c (.sl none 0 0 true))⟩])
 (.seq (.blk 0 (.loop (.seq (.seq (.reg [⟨some 11, none, .mv (.t 0)⟩,
 ⟨some 12, none, .call 233 [(.t 11)]⟩,
 ⟨some 13, none, .un .not (.t 12)⟩])
 (.cond (.t 13) (.skip)
 (.exit 0)))
 (.blk 1 (.reg [⟨some 14, none, .mv (.t 6)⟩,
 ⟨some 15, none, .mv (.t 0)⟩,
 ⟨some 16, none, .mv (.t 1)⟩,
 ⟨some 17, none, .call 234 [(.t 15), (.t 16)]⟩,
 ⟨some 18, none, .app ⟨11, (some 251)⟩ 144 (.t 14) (.t 17)⟩,
 ⟨some 6, none, .mv (.t 18)⟩])))))
 (.seq (.seq (.reg [⟨some 19, none, .mv (.t 6)⟩,
 ⟨some 20, none, .len 1 (.t 19)⟩])
 (.blk 2 (.seq (.reg [⟨some 22, none, .bin .eql (.t 20) (.c (.i .i64 0))⟩,
 ⟨some 21, none, .mv (.t 22)⟩])
 (.cond (.t 21) (.seq (.reg [⟨some 23, none, .mv (.t 5)⟩,
 ⟨some 24, none, .mv (.t 5)⟩,
 ⟨some 25, none, .build [(.i .i64 0), (.i .i64 0), (.i .i64 0), (.i .i64 0), (.i .i64 0), (.i .i64 0), (.i .i64 0), (.s ⟨#[]⟩), (.sl none 0 0 true), (.sl none 0 0 true)] [(0, 1, (.c (.i .i64 1))), (1, 1, (.t 23)), (2, 1, (.t 24))]⟩,
 ⟨some 26, none, .build [(.i .i64 0), (.i .i64 0), (.i .i64 0), (.i .i64 0), (.i .i64 0), (.i .i64 0), (.i .i64 0), (.s ⟨#[]⟩), (.sl none 0 0 true), (.sl none 0 0 true), (.sl none 0 0 true)] [(0, 10, (.t 25))]⟩,
 ⟨none, none, .st 11 (.t 4) (.t 26)⟩])
 (.ret))
 (.seq (.reg [⟨some 28, none, .bin .eql (.t 20) (.c (.i .i64 1))⟩,
 ⟨some 27, none, .mv (.t 28)⟩])
 (.cond (.t 27) (.seq (.reg [⟨some 29, none, .mv (.t 6)⟩,
 ⟨some 30, none, .ia 11 (.t 29) (.c (.i .i64 0))⟩,
 ⟨some 31, none, .ldn 11 (.t 30)⟩,
 ⟨none, none, .st 11 (.t 4) (.t 31)⟩])
 (.ret))
 (.skip)))))))
 (.seq (.regd [⟨some 32, none, .mv (.t 6)⟩,
 ⟨some 33, none, .ia 11 (.t 32) (.c (.i .i64 0))⟩,
 ⟨some 34, none, .fa 0 (.t 33)⟩,
 ⟨some 35, none, .fa 1 (.t 34)⟩,
 ⟨some 36, none, .ld (.t 35)⟩,
 ⟨some 37, none, .mv (.t 6)⟩,
 ⟨some 38, none, .mv (.t 6)⟩,
 ⟨some 39, none, .len 1 (.t 38)⟩,
 ⟨some 40, none, .bin .sub (.t 39) (.c (.i .i64 1))⟩,
 ⟨some 41, none, .ia 11 (.t 37) (.t 40)⟩,
 ⟨some 42, none, .fa 0 (.t 41)⟩,
 ⟨some 43, none, .fa 2 (.t 42)⟩,
 ⟨some 44, none, .ld (.t 43)⟩,
 ⟨some 45, none, .build [(.i .i64 0), (.i .i64 0), (.i .i64 0), (.i .i64 0), (.i .i64 0), (.i .i64 0), (.i .i64 0), (.s ⟨#[]⟩), (.sl none 0 0 true), (.sl none 0 0 true)] [(0, 1, (.c (.i .i64 5))), (1, 1, (.t 36)), (2, 1, (.t 44))]⟩,
 ⟨some 46, none, .mv (.t 6)⟩,
 ⟨some 47, none, .build [(.i .i64 0), (.i .i64 0), (.i .i64 0), (.i .i64 0), (.i .i64 0), (.i .i64 0), (.i .i64 0), (.s ⟨#[]⟩), (.sl none 0 0 true), (.sl none 0 0 true), (.sl none 0 0 true)] [(0, 10, (.t 45)), (10, 1, (.t 46))]⟩,
 ⟨none, none, .st 11 (.t 4) (.t 47)⟩] [])
 (.ret))))))
theorem fn199 : fnOf Tryz.prog Tryz.prog.globals.size ext 199 = .go 48 [.c 4 (some 11)] v199 := by rw [fnOf, Tryz.func199]; kernel_rfl

/-- (*clew/parse.parser).byteAt -/
def v200 : VC :=
.seq (.reg [⟨some 4, none, .mv (.c (.i .u8 0))⟩])
 (.seq (.seq (.reg [⟨some 5, none, .mv (.t 1)⟩,
 ⟨some 6, none, .mv (.t 0)⟩,
 ⟨some 7, none, .nc (.t 6)⟩,
 ⟨some 8, none, .fa 0 (.t 7)⟩,
 ⟨some 9, none, .ld (.t 8)⟩,
 ⟨some 10, none, .len 1 (.t 9)⟩,
 ⟨some 11, none, .bin .geq (.t 5) (.t 10)⟩])
 (.cond (.t 11) (.seq (.reg [⟨some 4, none, .mv (.c (.i .u8 0))⟩])
 (.ret))
 (.skip)))
 (.seq (.reg [⟨some 12, none, .mv (.t 0)⟩,
 ⟨some 13, none, .nc (.t 12)⟩,
 ⟨some 14, none, .fa 0 (.t 13)⟩,
 ⟨some 15, none, .ld (.t 14)⟩,
 ⟨some 16, none, .mv (.t 1)⟩,
 ⟨some 17, none, .ia 1 (.t 15) (.t 16)⟩,
 ⟨some 18, none, .ld (.t 17)⟩,
 ⟨some 4, none, .mv (.t 18)⟩])
 (.ret)))
theorem fn200 : fnOf Tryz.prog Tryz.prog.globals.size ext 200 = .go 19 [.t 4] v200 := by rw [fnOf, Tryz.func200]; kernel_rfl

/-- (clew/well.Width).times -/
def v201 : VC :=
.seq (.reg [⟨some 3, none, .box 2 (.t 0)⟩,
 ⟨some 6, none, .alloc 257 [(.i .i64 0), (.i .i64 0)]⟩])
 (.seq (.reg [⟨some 8, none, .fa 0 (.t 3)⟩,
 ⟨some 9, none, .ld (.t 8)⟩,
 ⟨some 10, none, .mv (.t 1)⟩,
 ⟨some 11, none, .bin .mul (.t 9) (.t 10)⟩,
 ⟨some 12, none, .mn [(.t 11), (.c (.i .i64 1048576))]⟩,
 ⟨some 13, none, .build [(.i .i64 0), (.i .i64 0)] [(0, 1, (.t 12))]⟩,
 ⟨some 7, none, .alloc 257 [(.i .i64 0), (.i .i64 0)]⟩,
 ⟨none, none, .st 2 (.t 7) (.t 13)⟩])
 (.seq (.blk 0 (.seq (.reg [⟨some 21, none, .fa 1 (.t 3)⟩,
 ⟨some 22, none, .ld (.t 21)⟩,
 ⟨some 23, none, .bin .eql (.t 22) (.c (.i .i64 0))⟩,
 ⟨some 20, none, .mv (.t 23)⟩])
 (.cond (.t 20) (.skip)
 (.seq (.reg [⟨some 25, none, .fa 1 (.t 3)⟩,
 ⟨some 26, none, .ld (.t 25)⟩,
 ⟨some 27, none, .bin .eql (.t 26) (.c (.i .i64 (-1)))⟩,
 ⟨some 28, none, .mv (.t 27)⟩,
 ⟨some 29, some (28, false), .mv (.t 2)⟩,
 ⟨some 30, some (28, false), .bin .eql (.t 29) (.c (.i .i64 (-1)))⟩,
 ⟨some 31, none, .pick (.t 28) (.c (.b true)) (.t 30)⟩,
 ⟨some 24, none, .mv (.t 31)⟩])
 (.cond (.t 24) (.reg [⟨some 32, none, .fa 1 (.t 7)⟩,
 ⟨none, none, .st 1 (.t 32) (.c (.i .i64 (-1)))⟩])
 (.reg [⟨some 14, none, .fa 1 (.t 3)⟩,
 ⟨some 15, none, .ld (.t 14)⟩,
 ⟨some 16, none, .mv (.t 2)⟩,
 ⟨some 17, none, .bin .mul (.t 15) (.t 16)⟩,
 ⟨some 18, none, .call 235 [(.t 17)]⟩,
 ⟨some 19, none, .fa 1 (.t 7)⟩,
 ⟨none, none, .st 1 (.t 19) (.t 18)⟩]))))))
 (.seq (.reg [⟨some 33, none, .ldn 2 (.t 7)⟩,
 ⟨none, none, .st 2 (.t 6) (.t 33)⟩])
 (.ret))))
theorem fn201 : fnOf Tryz.prog Tryz.prog.globals.size ext 201 = .go 34 [.c 6 (some 2)] v201 := by rw [fnOf, Tryz.func201]; kernel_rfl

/-- (clew/well.Width).add -/
def v202 : VC :=
.seq (.reg [⟨some 2, none, .box 2 (.t 0)⟩,
 ⟨some 3, none, .box 2 (.t 1)⟩,
 ⟨some 4, none, .alloc 257 [(.i .i64 0), (.i .i64 0)]⟩])
 (.seq (.reg [⟨some 6, none, .fa 0 (.t 2)⟩,
 ⟨some 7, none, .ld (.t 6)⟩,
 ⟨some 8, none, .fa 0 (.t 3)⟩,
 ⟨some 9, none, .ld (.t 8)⟩,
 ⟨some 10, none, .bin .add (.t 7) (.t 9)⟩,
 ⟨some 11, none, .mn [(.t 10), (.c (.i .i64 1048576))]⟩,
 ⟨some 12, none, .build [(.i .i64 0), (.i .i64 0)] [(0, 1, (.t 11)), (1, 1, (.c (.i .i64 (-1))))]⟩,
 ⟨some 5, none, .alloc 257 [(.i .i64 0), (.i .i64 0)]⟩,
 ⟨none, none, .st 2 (.t 5) (.t 12)⟩])
 (.seq (.seq (.reg [⟨some 13, none, .fa 1 (.t 2)⟩,
 ⟨some 14, none, .ld (.t 13)⟩,
 ⟨some 15, none, .bin .neq (.t 14) (.c (.i .i64 (-1)))⟩,
 ⟨some 16, none, .mv (.t 15)⟩,
 ⟨some 17, some (16, true), .fa 1 (.t 3)⟩,
 ⟨some 18, some (16, true), .ld (.t 17)⟩,
 ⟨some 19, some (16, true), .bin .neq (.t 18) (.c (.i .i64 (-1)))⟩,
 ⟨some 20, none, .pick (.t 16) (.t 19) (.c (.b false))⟩])
 (.cond (.t 20) (.reg [⟨some 21, none, .fa 1 (.t 2)⟩,
 ⟨some 22, none, .ld (.t 21)⟩,
 ⟨some 23, none, .fa 1 (.t 3)⟩,
 ⟨some 24, none, .ld (.t 23)⟩,
 ⟨some 25, none, .bin .add (.t 22) (.t 24)⟩,
 ⟨some 26, none, .call 235 [(.t 25)]⟩,
 ⟨some 27, none, .fa 1 (.t 5)⟩,
 ⟨none, none, .st 1 (.t 27) (.t 26)⟩])
 (.skip)))
 (.seq (.reg [⟨some 28, none, .ldn 2 (.t 5)⟩,
 ⟨none, none, .st 2 (.t 4) (.t 28)⟩])
 (.ret))))
theorem fn202 : fnOf Tryz.prog Tryz.prog.globals.size ext 202 = .go 29 [.c 4 (some 2)] v202 := by rw [fnOf, Tryz.func202]; kernel_rfl

/-- (clew/well.Width).or -/
def v203 : VC :=
.seq (.reg [⟨some 2, none, .box 2 (.t 0)⟩,
 ⟨some 3, none, .box 2 (.t 1)⟩,
 ⟨some 4, none, .alloc 257 [(.i .i64 0), (.i .i64 0)]⟩])
 (.seq (.reg [⟨some 6, none, .fa 0 (.t 2)⟩,
 ⟨some 7, none, .ld (.t 6)⟩,
 ⟨some 8, none, .fa 0 (.t 3)⟩,
 ⟨some 9, none, .ld (.t 8)⟩,
 ⟨some 10, none, .mn [(.t 7), (.t 9)]⟩,
 ⟨some 11, none, .build [(.i .i64 0), (.i .i64 0)] [(0, 1, (.t 10)), (1, 1, (.c (.i .i64 (-1))))]⟩,
 ⟨some 5, none, .alloc 257 [(.i .i64 0), (.i .i64 0)]⟩,
 ⟨none, none, .st 2 (.t 5) (.t 11)⟩])
 (.seq (.seq (.reg [⟨some 12, none, .fa 1 (.t 2)⟩,
 ⟨some 13, none, .ld (.t 12)⟩,
 ⟨some 14, none, .bin .neq (.t 13) (.c (.i .i64 (-1)))⟩,
 ⟨some 15, none, .mv (.t 14)⟩,
 ⟨some 16, some (15, true), .fa 1 (.t 3)⟩,
 ⟨some 17, some (15, true), .ld (.t 16)⟩,
 ⟨some 18, some (15, true), .bin .neq (.t 17) (.c (.i .i64 (-1)))⟩,
 ⟨some 19, none, .pick (.t 15) (.t 18) (.c (.b false))⟩])
 (.cond (.t 19) (.reg [⟨some 20, none, .fa 1 (.t 2)⟩,
 ⟨some 21, none, .ld (.t 20)⟩,
 ⟨some 22, none, .fa 1 (.t 3)⟩,
 ⟨some 23, none, .ld (.t 22)⟩,
 ⟨some 24, none, .mx [(.t 21), (.t 23)]⟩,
 ⟨some 25, none, .fa 1 (.t 5)⟩,
 ⟨none, none, .st 1 (.t 25) (.t 24)⟩])
 (.skip)))
 (.seq (.reg [⟨some 26, none, .ldn 2 (.t 5)⟩,
 ⟨none, none, .st 2 (.t 4) (.t 26)⟩])
 (.ret))))
theorem fn203 : fnOf Tryz.prog Tryz.prog.globals.size ext 203 = .go 27 [.c 4 (some 2)] v203 := by rw [fnOf, Tryz.func203]; kernel_rfl

/-- (*clew/comp.maker).way -/
def v204 : VC :=
.seq (.reg [⟨some 6, none, .mv (.c (.i .i64 0))⟩])
 (.seq (.reg [⟨some 8, none, .mv (.t 0)⟩,
 ⟨some 9, none, .mv (.t 1)⟩,
 ⟨some 10, none, .call 125 [(.t 8), (.t 9), (.c (.i .i64 5)), (.c (.i .i64 (-1))), (.c (.i .i64 0)), (.c (.i .i64 0))]⟩,
 ⟨some 7, none, .mv (.t 10)⟩])
 (.seq (.reg [⟨some 11, none, .mv (.t 0)⟩,
 ⟨some 12, none, .nc (.t 11)⟩,
 ⟨some 13, none, .fa 0 (.t 12)⟩,
 ⟨some 14, none, .fa 0 (.t 13)⟩,
 ⟨some 15, none, .ld (.t 14)⟩,
 ⟨some 16, none, .mv (.t 7)⟩,
 ⟨some 17, none, .mv (.t 2)⟩,
 ⟨some 18, none, .ia 6 (.t 15) (.t 16)⟩,
 ⟨some 19, none, .fa 5 (.t 18)⟩,
 ⟨none, none, .st 1 (.t 19) (.t 17)⟩])
 (.seq (.reg [⟨some 20, none, .mv (.t 7)⟩,
 ⟨some 6, none, .mv (.t 20)⟩])
 (.ret))))
theorem fn204 : fnOf Tryz.prog Tryz.prog.globals.size ext 204 = .go 21 [.t 6] v204 := by rw [fnOf, Tryz.func204]; kernel_rfl

/-- slices.insertionSortCmpFunc[clew/rset.Range] -/
def v205 : VC :=
.seq (.reg [⟨some 10, none, .mv (.t 1)⟩,
 ⟨some 11, none, .bin .add (.t 10) (.c (.i .i64 1))⟩,
 ⟨some 8, none, .mv (.t 11)⟩])
 (.blk 0 (.loop (.seq (.seq (.reg [⟨some 12, none, .mv (.t 8)⟩,
 ⟨some 13, none, .mv (.t 2)⟩,
 ⟨some 14, none, .bin .lss (.t 12) (.t 13)⟩])
 (.cond (.t 14) (.skip)
 (.exit 0)))
 (.seq (.blk 1 (.seq (.reg [⟨some 17, none, .mv (.t 8)⟩,
 ⟨some 9, none, .mv (.t 17)⟩])
 (.blk 2 (.loop (.seq (.seq (.regd [⟨some 18, none, .mv (.t 9)⟩,
 ⟨some 19, none, .mv (.t 1)⟩,
 ⟨some 20, none, .bin .gtr (.t 18) (.t 19)⟩,
 ⟨some 21, none, .mv (.t 20)⟩,
 ⟨some 22, some (21, true), .mv (.t 3)⟩,
 ⟨some 23, some (21, true), .mv (.t 0)⟩,
 ⟨some 24, some (21, true), .mv (.t 9)⟩,
 ⟨some 25, some (21, true), .ia 2 (.t 23) (.t 24)⟩,
 ⟨some 26, some (21, true), .ldn 2 (.t 25)⟩,
 ⟨some 27, some (21, true), .mv (.t 0)⟩,
 ⟨some 28, some (21, true), .mv (.t 9)⟩,
 ⟨some 29, some (21, true), .bin .sub (.t 28) (.c (.i .i64 1))⟩,
 ⟨some 30, some (21, true), .ia 2 (.t 27) (.t 29)⟩,
 ⟨some 31, some (21, true), .ldn 2 (.t 30)⟩,
 ⟨some 32, some (21, true), .cv (.t 22) [(.t 26), (.t 31)]⟩,
 ⟨some 33, some (21, true), .bin .lss (.t 32) (.c (.i .i64 0))⟩,
 ⟨some 34, none, .pick (.t 21) (.t 33) (.c (.b false))⟩] [])
 (.cond (.t 34) (.skip)
 (.exit 2)))
 (.seq (.blk 3 (.regd [⟨some 37, none, .mv (.t 0)⟩,
 ⟨some 38, none, .mv (.t 9)⟩,
 ⟨some 39, none, .mv (.t 0)⟩,
 ⟨some 40, none, .mv (.t 9)⟩,
 ⟨some 41, none, .bin .sub (.t 40) (.c (.i .i64 1))⟩,
 ⟨some 42, none, .mv (.t 0)⟩,
 ⟨some 43, none, .mv (.t 9)⟩,
 ⟨some 44, none, .bin .sub (.t 43) (.c (.i .i64 1))⟩,
 ⟨some 45, none, .ia 2 (.t 42) (.t 44)⟩,
 ⟨some 46, none, .ldn 2 (.t 45)⟩,
 ⟨some 47, none, .mv (.t 0)⟩,
 ⟨some 48, none, .mv (.t 9)⟩,
 ⟨some 49, none, .ia 2 (.t 47) (.t 48)⟩,
 ⟨some 50, none, .ldn 2 (.t 49)⟩,
 ⟨some 51, none, .ia 2 (.t 37) (.t 38)⟩,
 ⟨none, none, .st 2 (.t 51) (.t 46)⟩,
 ⟨some 52, none, .ia 2 (.t 39) (.t 41)⟩,
 ⟨none, none, .st 2 (.t 52) (.t 50)⟩] []))
 (.reg [⟨some 35, none, .mv (.t 9)⟩,
 ⟨some 36, none, .bin .sub (.t 35) (.c (.i .i64 1))⟩,
 ⟨some 9, none, .mv (.t 36)⟩])))))))
 (.reg [⟨some 15, none, .mv (.t 8)⟩,
 ⟨some 16, none, .bin .add (.t 15) (.c (.i .i64 1))⟩,
 ⟨some 8, none, .mv (.t 16)⟩])))))
theorem fn205 : fnOf Tryz.prog Tryz.prog.globals.size ext 205 = .go 53 [] v205 := by rw [fnOf, Tryz.func205]; kernel_rfl

/-- slices.heapSortCmpFunc[clew/rset.Range] -/
def v206 : VC :=
.seq (.reg [⟨some 13, none, .mv (.t 1)⟩,
 ⟨some 8, none, .mv (.t 13)⟩])
 (.seq (.reg [⟨some 9, none, .mv (.c (.i .i64 0))⟩])
 (.seq (.reg [⟨some 14, none, .mv (.t 2)⟩,
 ⟨some 15, none, .mv (.t 1)⟩,
 ⟨some 16, none, .bin .sub (.t 14) (.t 15)⟩,
 ⟨some 10, none, .mv (.t 16)⟩])
 (.seq (.seq (.reg [⟨some 17, none, .mv (.t 10)⟩,
 ⟨some 18, none, .bin .sub (.t 17) (.c (.i .i64 1))⟩,
 ⟨some 19, none, .bin .quo (.t 18) (.c (.i .i64 2))⟩,
 ⟨some 11, none, .mv (.t 19)⟩])
 (.blk 0 (.loop (.seq (.seq (.reg [⟨some 20, none, .mv (.t 11)⟩,
 ⟨some 21, none, .bin .geq (.t 20) (.c (.i .i64 0))⟩])
 (.cond (.t 21) (.skip)
 (.exit 0)))
 (.seq (.blk 1 (.reg [⟨some 24, none, .mv (.t 0)⟩,
 ⟨some 25, none, .mv (.t 11)⟩,
 ⟨some 26, none, .mv (.t 10)⟩,
 ⟨some 27, none, .mv (.t 8)⟩,
 ⟨some 28, none, .mv (.t 3)⟩,
 ⟨some 29, none, .call 236 [(.t 24), (.t 25), (.t 26), (.t 27), (.t 28)]⟩]))
 (.reg [⟨some 22, none, .mv (.t 11)⟩,
 ⟨some 23, none, .bin .sub (.t 22) (.c (.i .i64 1))⟩,
 ⟨some 11, none, .mv (.t 23)⟩]))))))
 (.seq (.reg [⟨some 30, none, .mv (.t 10)⟩,
 ⟨some 31, none, .bin .sub (.t 30) (.c (.i .i64 1))⟩,
 ⟨some 12, none, .mv (.t 31)⟩])
 (.blk 2 (.loop (.seq (.seq (.reg [⟨some 32, none, .mv (.t 12)⟩,
 ⟨some 33, none, .bin .geq (.t 32) (.c (.i .i64 0))⟩])
 (.cond (.t 33) (.skip)
 (.exit 2)))
 (.seq (.blk 3 (.seq (.regd [⟨some 36, none, .mv (.t 0)⟩,
 ⟨some 37, none, .mv (.t 8)⟩,
 ⟨some 38, none, .mv (.t 0)⟩,
 ⟨some 39, none, .mv (.t 8)⟩,
 ⟨some 40, none, .mv (.t 12)⟩,
 ⟨some 41, none, .bin .add (.t 39) (.t 40)⟩,
 ⟨some 42, none, .mv (.t 0)⟩,
 ⟨some 43, none, .mv (.t 8)⟩,
 ⟨some 44, none, .mv (.t 12)⟩,
 ⟨some 45, none, .bin .add (.t 43) (.t 44)⟩,
 ⟨some 46, none, .ia 2 (.t 42) (.t 45)⟩,
 ⟨some 47, none, .ldn 2 (.t 46)⟩,
 ⟨some 48, none, .mv (.t 0)⟩,
 ⟨some 49, none, .mv (.t 8)⟩,
 ⟨some 50, none, .ia 2 (.t 48) (.t 49)⟩,
 ⟨some 51, none, .ldn 2 (.t 50)⟩,
 ⟨some 52, none, .ia 2 (.t 36) (.t 37)⟩,
 ⟨none, none, .st 2 (.t 52) (.t 47)⟩,
 ⟨some 53, none, .ia 2 (.t 38) (.t 41)⟩,
 ⟨none, none, .st 2 (.t 53) (.t 51)⟩] [])
 (.reg [⟨some 54, none, .mv (.t 0)⟩,
 ⟨some 55, none, .mv (.t 9)⟩,
 ⟨some 56, none, .mv (.t 12)⟩,
 ⟨some 57, none, .mv (.t 8)⟩,
 ⟨some 58, none, .mv (.t 3)⟩,
 ⟨some 59, none, .call 236 [(.t 54), (.t 55), (.t 56), (.t 57), (.t 58)]⟩])))
 (.reg [⟨some 34, none, .mv (.t 12)⟩,
 ⟨some 35, none, .bin .sub (.t 34) (.c (.i .i64 1))⟩,
 ⟨some 12, none, .mv (.t 35)⟩])))))))))
theorem fn206 : fnOf Tryz.prog Tryz.prog.globals.size ext 206 = .go 60 [] v206 := by rw [fnOf, Tryz.func206]; kernel_rfl

/-- slices.breakPatternsCmpFunc[clew/rset.Range] -/
def v207 : VC :=
.seq (.reg [⟨some 13, none, .mv (.t 2)⟩,
 ⟨some 14, none, .mv (.t 1)⟩,
 ⟨some 15, none, .bin .sub (.t 13) (.t 14)⟩,
 ⟨some 8, none, .mv (.t 15)⟩])
 (.seq (.reg [⟨some 16, none, .mv (.t 8)⟩,
 ⟨some 17, none, .bin .geq (.t 16) (.c (.i .i64 8))⟩])
 (.cond (.t 17) (.seq (.reg [⟨some 18, none, .mv (.t 8)⟩,
 ⟨some 19, none, .cvi .u64 (.t 18)⟩,
 ⟨some 9, none, .alloc 316 [(.i .u64 0)]⟩,
 ⟨none, none, .st 1 (.t 9) (.t 19)⟩])
 (.seq (.reg [⟨some 20, none, .mv (.t 8)⟩,
 ⟨some 21, none, .call 237 [(.t 20)]⟩,
 ⟨some 10, none, .mv (.t 21)⟩])
 (.seq (.reg [⟨some 22, none, .mv (.t 1)⟩,
 ⟨some 23, none, .mv (.t 8)⟩,
 ⟨some 24, none, .bin .quo (.t 23) (.c (.i .i64 4))⟩,
 ⟨some 25, none, .bin .mul (.t 24) (.c (.i .i64 2))⟩,
 ⟨some 26, none, .bin .add (.t 22) (.t 25)⟩,
 ⟨some 27, none, .bin .sub (.t 26) (.c (.i .i64 1))⟩,
 ⟨some 11, none, .mv (.t 27)⟩])
 (.blk 0 (.loop (.seq (.seq (.reg [⟨some 28, none, .mv (.t 11)⟩,
 ⟨some 29, none, .mv (.t 1)⟩,
 ⟨some 30, none, .mv (.t 8)⟩,
 ⟨some 31, none, .bin .quo (.t 30) (.c (.i .i64 4))⟩,
 ⟨some 32, none, .bin .mul (.t 31) (.c (.i .i64 2))⟩,
 ⟨some 33, none, .bin .add (.t 29) (.t 32)⟩,
 ⟨some 34, none, .bin .add (.t 33) (.c (.i .i64 1))⟩,
 ⟨some 35, none, .bin .leq (.t 28) (.t 34)⟩])
 (.cond (.t 35) (.skip)
 (.exit 0)))
 (.seq (.blk 1 (.seq (.reg [⟨some 38, none, .call 238 [(.t 9)]⟩,
 ⟨some 39, none, .mv (.t 10)⟩,
 ⟨some 40, none, .bin .sub (.t 39) (.c (.i .u64 1))⟩,
 ⟨some 41, none, .bin .and (.t 38) (.t 40)⟩,
 ⟨some 42, none, .cvi .i64 (.t 41)⟩,
 ⟨some 12, none, .mv (.t 42)⟩])
 (.seq (.seq (.reg [⟨some 43, none, .mv (.t 12)⟩,
 ⟨some 44, none, .mv (.t 8)⟩,
 ⟨some 45, none, .bin .geq (.t 43) (.t 44)⟩])
 (.cond (.t 45) (.reg [⟨some 46, none, .mv (.t 12)⟩,
 ⟨some 47, none, .mv (.t 8)⟩,
 ⟨some 48, none, .bin .sub (.t 46) (.t 47)⟩,
 ⟨some 12, none, .mv (.t 48)⟩])
 (.skip)))
 (.regd [⟨some 49, none, .mv (.t 0)⟩,
 ⟨some 50, none, .mv (.t 11)⟩,
 ⟨some 51, none, .mv (.t 0)⟩,
 ⟨some 52, none, .mv (.t 1)⟩,
 ⟨some 53, none, .mv (.t 12)⟩,
 ⟨some 54, none, .bin .add (.t 52) (.t 53)⟩,
 ⟨some 55, none, .mv (.t 0)⟩,
 ⟨some 56, none, .mv (.t 1)⟩,
 ⟨some 57, none, .mv (.t 12)⟩,
 ⟨some 58, none, .bin .add (.t 56) (.t 57)⟩,
 ⟨some 59, none, .ia 2 (.t 55) (.t 58)⟩,
 ⟨some 60, none, .ldn 2 (.t 59)⟩,
 ⟨some 61, none, .mv (.t 0)⟩,
 ⟨some 62, none, .mv (.t 11)⟩,
 ⟨some 63, none, .ia 2 (.t 61) (.t 62)⟩,
 ⟨some 64, none, .ldn 2 (.t 63)⟩,
 ⟨some 65, none, .ia 2 (.t 49) (.t 50)⟩,
 ⟨none, none, .st 2 (.t 65) (.t 60)⟩,
 ⟨some 66, none, .ia 2 (.t 51) (.t 54)⟩,
 ⟨none, none, .st 2 (.t 66) (.t 64)⟩] []))))
 (.reg [⟨some 36, none, .mv (.t 11)⟩,
 ⟨some 37, none, .bin .add (.t 36) (.c (.i .i64 1))⟩,
 ⟨some 11, none, .mv (.t 37)⟩]))))))))
 (.skip)))
theorem fn207 : fnOf Tryz.prog Tryz.prog.globals.size ext 207 = .go 67 [] v207 := by rw [fnOf, Tryz.func207]; kernel_rfl

/-- slices.choosePivotCmpFunc[clew/rset.Range] -/
def v208 : VC :=
.seq (.reg [⟨some 8, none, .mv (.c (.i .i64 0))⟩,
 ⟨some 9, none, .mv (.c (.i .i64 0))⟩])
 (.seq (.reg [⟨some 15, none, .mv (.t 2)⟩,
 ⟨some 16, none, .mv (.t 1)⟩,
 ⟨some 17, none, .bin .sub (.t 15) (.t 16)⟩,
 ⟨some 10, none, .mv (.t 17)⟩])
 (.seq (.reg [⟨some 11, none, .alloc 3 [(.i .i64 0)]⟩])
 (.seq (.reg [⟨some 18, none, .mv (.t 1)⟩,
 ⟨some 19, none, .mv (.t 10)⟩,
 ⟨some 20, none, .bin .quo (.t 19) (.c (.i .i64 4))⟩,
 ⟨some 21, none, .bin .mul (.t 20) (.c (.i .i64 1))⟩,
 ⟨some 22, none, .bin .add (.t 18) (.t 21)⟩,
 ⟨some 12, none, .mv (.t 22)⟩])
 (.seq (.reg [⟨some 23, none, .mv (.t 1)⟩,
 ⟨some 24, none, .mv (.t 10)⟩,
 ⟨some 25, none, .bin .quo (.t 24) (.c (.i .i64 4))⟩,
 ⟨some 26, none, .bin .mul (.t 25) (.c (.i .i64 2))⟩,
 ⟨some 27, none, .bin .add (.t 23) (.t 26)⟩,
 ⟨some 13, none, .mv (.t 27)⟩])
 (.seq (.reg [⟨some 28, none, .mv (.t 1)⟩,
 ⟨some 29, none, .mv (.t 10)⟩,
 ⟨some 30, none, .bin .quo (.t 29) (.c (.i .i64 4))⟩,
 ⟨some 31, none, .bin .mul (.t 30) (.c (.i .i64 3))⟩,
 ⟨some 32, none, .bin .add (.t 28) (.t 31)⟩,
 ⟨some 14, none, .mv (.t 32)⟩])
 (.seq (.seq (.reg [⟨some 33, none, .mv (.t 10)⟩,
 ⟨some 34, none, .bin .geq (.t 33) (.c (.i .i64 8))⟩])
 (.cond (.t 34) (.seq (.seq (.reg [⟨some 35, none, .mv (.t 10)⟩,
 ⟨some 36, none, .bin .geq (.t 35) (.c (.i .i64 50))⟩])
 (.cond (.t 36) (.seq (.reg [⟨some 37, none, .mv (.t 0)⟩,
 ⟨some 38, none, .mv (.t 12)⟩,
 ⟨some 39, none, .mv (.t 3)⟩,
 ⟨some 40, none, .call 239 [(.t 37), (.t 38), (.t 11), (.t 39)]⟩,
 ⟨some 12, none, .mv (.t 40)⟩])
 (.seq (.reg [⟨some 41, none, .mv (.t 0)⟩,
 ⟨some 42, none, .mv (.t 13)⟩,
 ⟨some 43, none, .mv (.t 3)⟩,
 ⟨some 44, none, .call 239 [(.t 41), (.t 42), (.t 11), (.t 43)]⟩,
 ⟨some 13, none, .mv (.t 44)⟩])
 (.reg [⟨some 45, none, .mv (.t 0)⟩,
 ⟨some 46, none, .mv (.t 14)⟩,
 ⟨some 47, none, .mv (.t 3)⟩,
 ⟨some 48, none, .call 239 [(.t 45), (.t 46), (.t 11), (.t 47)]⟩,
 ⟨some 14, none, .mv (.t 48)⟩])))
 (.skip)))
 (.reg [⟨some 49, none, .mv (.t 0)⟩,
 ⟨some 50, none, .mv (.t 12)⟩,
 ⟨some 51, none, .mv (.t 13)⟩,
 ⟨some 52, none, .mv (.t 14)⟩,
 ⟨some 53, none, .mv (.t 3)⟩,
 ⟨some 54, none, .call 240 [(.t 49), (.t 50), (.t 51), (.t 52), (.t 11), (.t 53)]⟩,
 ⟨some 13, none, .mv (.t 54)⟩]))
 (.skip)))
 (.seq (.reg [⟨some 55, none, .ld (.t 11)⟩])
 (.blk 0 (.seq (.reg [⟨some 58, none, .bin .eql (.t 55) (.c (.i .i64 0))⟩,
 ⟨some 57, none, .mv (.t 58)⟩])
 (.cond (.t 57) (.seq (.reg [⟨some 59, none, .mv (.t 13)⟩,
 ⟨some 8, none, .mv (.t 59)⟩,
 ⟨some 9, none, .mv (.c (.i .i64 1))⟩])
 (.ret))
 (.seq (.reg [⟨some 61, none, .bin .eql (.t 55) (.c (.i .i64 12))⟩,
 ⟨some 60, none, .mv (.t 61)⟩])
 (.cond (.t 60) (.seq (.reg [⟨some 62, none, .mv (.t 13)⟩,
 ⟨some 8, none, .mv (.t 62)⟩,
 ⟨some 9, none, .mv (.c (.i .i64 2))⟩])
 (.ret))
 (.seq (.reg [⟨some 56, none, .mv (.t 13)⟩,
 ⟨some 8, none, .mv (.t 56)⟩,
 ⟨some 9, none, .mv (.c (.i .i64 0))⟩])
 (.ret))))))))))))))
theorem fn208 : fnOf Tryz.prog Tryz.prog.globals.size ext 208 = .go 63 [.t 8, .t 9] v208 := by rw [fnOf, Tryz.func208]; kernel_rfl

/-- slices.reverseRangeCmpFunc[clew/rset.Range] -/
def v209 : VC :=
.seq (.reg [⟨some 10, none, .mv (.t 1)⟩,
 ⟨some 8, none, .mv (.t 10)⟩])
 (.seq (.reg [⟨some 11, none, .mv (.t 2)⟩,
 ⟨some 12, none, .bin .sub (.t 11) (.c (.i .i64 1))⟩,
 ⟨some 9, none, .mv (.t 12)⟩])
 (.blk 0 (.loop (.seq (.seq (.reg [⟨some 13, none, .mv (.t 8)⟩,
 ⟨some 14, none, .mv (.t 9)⟩,
 ⟨some 15, none, .bin .lss (.t 13) (.t 14)⟩])
 (.cond (.t 15) (.skip)
 (.exit 0)))
 (.blk 1 (.seq (.regd [⟨some 16, none, .mv (.t 0)⟩,
 ⟨some 17, none, .mv (.t 8)⟩,
 ⟨some 18, none, .mv (.t 0)⟩,
 ⟨some 19, none, .mv (.t 9)⟩,
 ⟨some 20, none, .mv (.t 0)⟩,
 ⟨some 21, none, .mv (.t 9)⟩,
 ⟨some 22, none, .ia 2 (.t 20) (.t 21)⟩,
 ⟨some 23, none, .ldn 2 (.t 22)⟩,
 ⟨some 24, none, .mv (.t 0)⟩,
 ⟨some 25, none, .mv (.t 8)⟩,
 ⟨some 26, none, .ia 2 (.t 24) (.t 25)⟩,
 ⟨some 27, none, .ldn 2 (.t 26)⟩,
 ⟨some 28, none, .ia 2 (.t 16) (.t 17)⟩,
 ⟨none, none, .st 2 (.t 28) (.t 23)⟩,
 ⟨some 29, none, .ia 2 (.t 18) (.t 19)⟩,
 ⟨none, none, .st 2 (.t 29) (.t 27)⟩] [])
 (.seq (.reg [⟨some 30, none, .mv (.t 8)⟩,
 ⟨some 31, none, .bin .add (.t 30) (.c (.i .i64 1))⟩,
 ⟨some 8, none, .mv (.t 31)⟩])
 (.reg [⟨some 32, none, .mv (.t 9)⟩,
 ⟨some 33, none, .bin .sub (.t 32) (.c (.i .i64 1))⟩,
 ⟨some 9, none, .mv (.t 33)⟩]))))))))
theorem fn209 : fnOf Tryz.prog Tryz.prog.globals.size ext 209 = .go 34 [] v209 := by rw [fnOf, Tryz.func209]; kernel_rfl

/-- slices.partialInsertionSortCmpFunc[clew/rset.Range] -/
def v210 : VC :=
.seq (.reg [⟨some 8, none, .mv (.c (.b false))⟩])
 (.seq (.reg [⟨some 13, none, .mv (.t 1)⟩,
 ⟨some 14, none, .bin .add (.t 13) (.c (.i .i64 1))⟩,
 ⟨some 9, none, .mv (.t 14)⟩])
 (.seq (.seq (.reg [⟨some 10, none, .mv (.c (.i .i64 0))⟩])
 (.blk 0 (.loop (.seq (.seq (.reg [⟨some 15, none, .mv (.t 10)⟩,
 ⟨some 16, none, .bin .lss (.t 15) (.c (.i .i64 5))⟩])
 (.cond (.t 16) (.skip)
 (.exit 0)))
 (.seq (.blk 1 (.seq (.blk 2 (.loop (.seq (.seq (.regd [⟨some 19, none, .mv (.t 9)⟩,
 ⟨some 20, none, .mv (.t 2)⟩,
 ⟨some 21, none, .bin .lss (.t 19) (.t 20)⟩,
 ⟨some 22, none, .mv (.t 21)⟩,
 ⟨some 23, some (22, true), .mv (.t 3)⟩,
 ⟨some 24, some (22, true), .mv (.t 0)⟩,
 ⟨some 25, some (22, true), .mv (.t 9)⟩,
 ⟨some 26, some (22, true), .ia 2 (.t 24) (.t 25)⟩,
 ⟨some 27, some (22, true), .ldn 2 (.t 26)⟩,
 ⟨some 28, some (22, true), .mv (.t 0)⟩,
 ⟨some 29, some (22, true), .mv (.t 9)⟩,
 ⟨some 30, some (22, true), .bin .sub (.t 29) (.c (.i .i64 1))⟩,
 ⟨some 31, some (22, true), .ia 2 (.t 28) (.t 30)⟩,
 ⟨some 32, some (22, true), .ldn 2 (.t 31)⟩,
 ⟨some 33, some (22, true), .cv (.t 23) [(.t 27), (.t 32)]⟩,
 ⟨some 34, some (22, true), .bin .lss (.t 33) (.c (.i .i64 0))⟩,
 ⟨some 35, some (22, true), .un .not (.t 34)⟩,
 ⟨some 36, none, .pick (.t 22) (.t 35) (.c (.b false))⟩] [])
 (.cond (.t 36) (.skip)
 (.exit 2)))
 (.blk 3 (.reg [⟨some 37, none, .mv (.t 9)⟩,
 ⟨some 38, none, .bin .add (.t 37) (.c (.i .i64 1))⟩,
 ⟨some 9, none, .mv (.t 38)⟩])))))
 (.seq (.seq (.reg [⟨some 39, none, .mv (.t 9)⟩,
 ⟨some 40, none, .mv (.t 2)⟩,
 ⟨some 41, none, .bin .eql (.t 39) (.t 40)⟩])
 (.cond (.t 41) (.seq (.reg [⟨some 8, none, .mv (.c (.b true))⟩])
 (.ret))
 (.skip)))
 (.seq (.seq (.reg [⟨some 42, none, .mv (.t 2)⟩,
 ⟨some 43, none, .mv (.t 1)⟩,
 ⟨some 44, none, .bin .sub (.t 42) (.t 43)⟩,
 ⟨some 45, none, .bin .lss (.t 44) (.c (.i .i64 50))⟩])
 (.cond (.t 45) (.seq (.reg [⟨some 8, none, .mv (.c (.b false))⟩])
 (.ret))
 (.skip)))
 (.seq (.regd [⟨some 46, none, .mv (.t 0)⟩,
 ⟨some 47, none, .mv (.t 9)⟩,
 ⟨some 48, none, .mv (.t 0)⟩,
 ⟨some 49, none, .mv (.t 9)⟩,
 ⟨some 50, none, .bin .sub (.t 49) (.c (.i .i64 1))⟩,
 ⟨some 51, none, .mv (.t 0)⟩,
 ⟨some 52, none, .mv (.t 9)⟩,
 ⟨some 53, none, .bin .sub (.t 52) (.c (.i .i64 1))⟩,
 ⟨some 54, none, .ia 2 (.t 51) (.t 53)⟩,
 ⟨some 55, none, .ldn 2 (.t 54)⟩,
 ⟨some 56, none, .mv (.t 0)⟩,
 ⟨some 57, none, .mv (.t 9)⟩,
 ⟨some 58, none, .ia 2 (.t 56) (.t 57)⟩,
 ⟨some 59, none, .ldn 2 (.t 58)⟩,
 ⟨some 60, none, .ia 2 (.t 46) (.t 47)⟩,
 ⟨none, none, .st 2 (.t 60) (.t 55)⟩,
 ⟨some 61, none, .ia 2 (.t 48) (.t 50)⟩,
 ⟨none, none, .st 2 (.t 61) (.t 59)⟩] [])
 (.seq (.seq (.reg [⟨some 62, none, .mv (.t 9)⟩,
 ⟨some 63, none, .mv (.t 1)⟩,
 ⟨some 64, none, .bin .sub (.t 62) (.t 63)⟩,
 ⟨some 65, none, .bin .geq (.t 64) (.c (.i .i64 2))⟩])
 (.cond (.t 65) (.seq (.reg [⟨some 66, none, .mv (.t 9)⟩,
 ⟨some 67, none, .bin .sub (.t 66) (.c (.i .i64 1))⟩,
 ⟨some 11, none, .mv (.t 67)⟩])
 (.blk 4 (.loop (.seq (.seq (.reg [⟨some 68, none, .mv (.t 11)⟩,
 ⟨some 69, none, .bin .geq (.t 68) (.c (.i .i64 1))⟩])
 (.cond (.t 69) (.skip)
 (.exit 4)))
 (.seq (.blk 5 (.seq (.seq (.regd [⟨some 72, none, .mv (.t 3)⟩,
 ⟨some 73, none, .mv (.t 0)⟩,
 ⟨some 74, none, .mv (.t 11)⟩,
 ⟨some 75, none, .ia 2 (.t 73) (.t 74)⟩,
 ⟨some 76, none, .ldn 2 (.t 75)⟩,
 ⟨some 77, none, .mv (.t 0)⟩,
 ⟨some 78, none, .mv (.t 11)⟩,
 ⟨some 79, none, .bin .sub (.t 78) (.c (.i .i64 1))⟩,
 ⟨some 80, none, .ia 2 (.t 77) (.t 79)⟩,
 ⟨some 81, none, .ldn 2 (.t 80)⟩,
 ⟨some 82, none, .cv (.t 72) [(.t 76), (.t 81)]⟩,
 ⟨some 83, none, .bin .lss (.t 82) (.c (.i .i64 0))⟩,
 ⟨some 84, none, .un .not (.t 83)⟩] [])
 (.cond (.t 84) (.exit 4)
 (.skip)))
 (.regd [⟨some 85, none, .mv (.t 0)⟩,
 ⟨some 86, none, .mv (.t 11)⟩,
 ⟨some 87, none, .mv (.t 0)⟩,
 ⟨some 88, none, .mv (.t 11)⟩,
 ⟨some 89, none, .bin .sub (.t 88) (.c (.i .i64 1))⟩,
 ⟨some 90, none, .mv (.t 0)⟩,
 ⟨some 91, none, .mv (.t 11)⟩,
 ⟨some 92, none, .bin .sub (.t 91) (.c (.i .i64 1))⟩,
 ⟨some 93, none, .ia 2 (.t 90) (.t 92)⟩,
 ⟨some 94, none, .ldn 2 (.t 93)⟩,
 ⟨some 95, none, .mv (.t 0)⟩,
 ⟨some 96, none, .mv (.t 11)⟩,
 ⟨some 97, none, .ia 2 (.t 95) (.t 96)⟩,
 ⟨some 98, none, .ldn 2 (.t 97)⟩,
 ⟨some 99, none, .ia 2 (.t 85) (.t 86)⟩,
 ⟨none, none, .st 2 (.t 99) (.t 94)⟩,
 ⟨some 100, none, .ia 2 (.t 87) (.t 89)⟩,
 ⟨none, none, .st 2 (.t 100) (.t 98)⟩] [])))
 (.reg [⟨some 70, none, .mv (.t 11)⟩,
 ⟨some 71, none, .bin .sub (.t 70) (.c (.i .i64 1))⟩,
 ⟨some 11, none, .mv (.t 71)⟩]))))))
 (.skip)))
 (.seq (.reg [⟨some 101, none, .mv (.t 2)⟩,
 ⟨some 102, none, .mv (.t 9)⟩,
 ⟨some 103, none, .bin .sub (.t 101) (.t 102)⟩,
 ⟨some 104, none, .bin .geq (.t 103) (.c (.i .i64 2))⟩])
 (.cond (.t 104) (.seq (.reg [⟨some 105, none, .mv (.t 9)⟩,
 ⟨some 106, none, .bin .add (.t 105) (.c (.i .i64 1))⟩,
 ⟨some 12, none, .mv (.t 106)⟩])
 (.blk 6 (.loop (.seq (.seq (.reg [⟨some 107, none, .mv (.t 12)⟩,
 ⟨some 108, none, .mv (.t 2)⟩,
 ⟨some 109, none, .bin .lss (.t 107) (.t 108)⟩])
 (.cond (.t 109) (.skip)
 (.exit 6)))
 (.seq (.blk 7 (.seq (.seq (.regd [⟨some 112, none, .mv (.t 3)⟩,
 ⟨some 113, none, .mv (.t 0)⟩,
 ⟨some 114, none, .mv (.t 12)⟩,
 ⟨some 115, none, .ia 2 (.t 113) (.t 114)⟩,
 ⟨some 116, none, .ldn 2 (.t 115)⟩,
 ⟨some 117, none, .mv (.t 0)⟩,
 ⟨some 118, none, .mv (.t 12)⟩,
 ⟨some 119, none, .bin .sub (.t 118) (.c (.i .i64 1))⟩,
 ⟨some 120, none, .ia 2 (.t 117) (.t 119)⟩,
 ⟨some 121, none, .ldn 2 (.t 120)⟩,
 ⟨some 122, none, .cv (.t 112) [(.t 116), (.t 121)]⟩,
 ⟨some 123, none, .bin .lss (.t 122) (.c (.i .i64 0))⟩,
 ⟨some 124, none, .un .not (.t 123)⟩] [])
 (.cond (.t 124) (.exit 6)
 (.skip)))
 (.regd [⟨some 125, none, .mv (.t 0)⟩,
 ⟨some 126, none, .mv (.t 12)⟩,
 ⟨some 127, none, .mv (.t 0)⟩,
 ⟨some 128, none, .mv (.t 12)⟩,
 ⟨some 129, none, .bin .sub (.t 128) (.c (.i .i64 1))⟩,
 ⟨some 130, none, .mv (.t 0)⟩,
 ⟨some 131, none, .mv (.t 12)⟩,
 ⟨some 132, none, .bin .sub (.t 131) (.c (.i .i64 1))⟩,
 ⟨some 133, none, .ia 2 (.t 130) (.t 132)⟩,
 ⟨some 134, none, .ldn 2 (.t 133)⟩,
 ⟨some 135, none, .mv (.t 0)⟩,
 ⟨some 136, none, .mv (.t 12)⟩,
 ⟨some 137, none, .ia 2 (.t 135) (.t 136)⟩,
 ⟨some 138, none, .ldn 2 (.t 137)⟩,
 ⟨some 139, none, .ia 2 (.t 125) (.t 126)⟩,
 ⟨none, none, .st 2 (.t 139) (.t 134)⟩,
 ⟨some 140, none, .ia 2 (.t 127) (.t 129)⟩,
 ⟨none, none, .st 2 (.t 140) (.t 138)⟩] [])))
 (.reg [⟨some 110, none, .mv (.t 12)⟩,
 ⟨some 111, none, .bin .add (.t 110) (.c (.i .i64 1))⟩,
 ⟨some 12, none, .mv (.t 111)⟩]))))))
 (.skip)))))))))
 (.reg [⟨some 17, none, .mv (.t 10)⟩,
 ⟨some 18, none, .bin .add (.t 17) (.c (.i .i64 1))⟩,
 ⟨some 10, none, .mv (.t 18)⟩]))))))
 (.seq (.reg [⟨some 8, none, .mv (.c (.b false))⟩])
 (.ret))))
theorem fn210 : fnOf Tryz.prog Tryz.prog.globals.size ext 210 = .go 141 [.t 8] v210 := by rw [fnOf, Tryz.func210]; kernel_rfl

/-- slices.partitionEqualCmpFunc[clew/rset.Range] -/
def v211 : VC :=
.seq (.reg [⟨some 10, none, .mv (.c (.i .i64 0))⟩])
 (.seq (.regd [⟨some 13, none, .mv (.t 0)⟩,
 ⟨some 14, none, .mv (.t 1)⟩,
 ⟨some 15, none, .mv (.t 0)⟩,
 ⟨some 16, none, .mv (.t 3)⟩,
 ⟨some 17, none, .mv (.t 0)⟩,
 ⟨some 18, none, .mv (.t 3)⟩,
 ⟨some 19, none, .ia 2 (.t 17) (.t 18)⟩,
 ⟨some 20, none, .ldn 2 (.t 19)⟩,
 ⟨some 21, none, .mv (.t 0)⟩,
 ⟨some 22, none, .mv (.t 1)⟩,
 ⟨some 23, none, .ia 2 (.t 21) (.t 22)⟩,
 ⟨some 24, none, .ldn 2 (.t 23)⟩,
 ⟨some 25, none, .ia 2 (.t 13) (.t 14)⟩,
 ⟨none, none, .st 2 (.t 25) (.t 20)⟩,
 ⟨some 26, none, .ia 2 (.t 15) (.t 16)⟩,
 ⟨none, none, .st 2 (.t 26) (.t 24)⟩] [])
 (.seq (.reg [⟨some 27, none, .mv (.t 1)⟩,
 ⟨some 28, none, .bin .add (.t 27) (.c (.i .i64 1))⟩,
 ⟨some 29, none, .mv (.t 2)⟩,
 ⟨some 30, none, .bin .sub (.t 29) (.c (.i .i64 1))⟩,
 ⟨some 11, none, .mv (.t 28)⟩,
 ⟨some 12, none, .mv (.t 30)⟩])
 (.seq (.blk 0 (.loop (.blk 1 (.seq (.blk 2 (.loop (.seq (.seq (.regd [⟨some 31, none, .mv (.t 11)⟩,
 ⟨some 32, none, .mv (.t 12)⟩,
 ⟨some 33, none, .bin .leq (.t 31) (.t 32)⟩,
 ⟨some 34, none, .mv (.t 33)⟩,
 ⟨some 35, some (34, true), .mv (.t 4)⟩,
 ⟨some 36, some (34, true), .mv (.t 0)⟩,
 ⟨some 37, some (34, true), .mv (.t 1)⟩,
 ⟨some 38, some (34, true), .ia 2 (.t 36) (.t 37)⟩,
 ⟨some 39, some (34, true), .ldn 2 (.t 38)⟩,
 ⟨some 40, some (34, true), .mv (.t 0)⟩,
 ⟨some 41, some (34, true), .mv (.t 11)⟩,
 ⟨some 42, some (34, true), .ia 2 (.t 40) (.t 41)⟩,
 ⟨some 43, some (34, true), .ldn 2 (.t 42)⟩,
 ⟨some 44, some (34, true), .cv (.t 35) [(.t 39), (.t 43)]⟩,
 ⟨some 45, some (34, true), .bin .lss (.t 44) (.c (.i .i64 0))⟩,
 ⟨some 46, some (34, true), .un .not (.t 45)⟩,
 ⟨some 47, none, .pick (.t 34) (.t 46) (.c (.b false))⟩] [])
 (.cond (.t 47) (.skip)
 (.exit 2)))
 (.blk 3 (.reg [⟨some 48, none, .mv (.t 11)⟩,
 ⟨some 49, none, .bin .add (.t 48) (.c (.i .i64 1))⟩,
 ⟨some 11, none, .mv (.t 49)⟩])))))
 (.seq (.blk 4 (.loop (.seq (.seq (.regd [⟨some 50, none, .mv (.t 11)⟩,
 ⟨some 51, none, .mv (.t 12)⟩,
 ⟨some 52, none, .bin .leq (.t 50) (.t 51)⟩,
 ⟨some 53, none, .mv (.t 52)⟩,
 ⟨some 54, some (53, true), .mv (.t 4)⟩,
 ⟨some 55, some (53, true), .mv (.t 0)⟩,
 ⟨some 56, some (53, true), .mv (.t 1)⟩,
 ⟨some 57, some (53, true), .ia 2 (.t 55) (.t 56)⟩,
 ⟨some 58, some (53, true), .ldn 2 (.t 57)⟩,
 ⟨some 59, some (53, true), .mv (.t 0)⟩,
 ⟨some 60, some (53, true), .mv (.t 12)⟩,
 ⟨some 61, some (53, true), .ia 2 (.t 59) (.t 60)⟩,
 ⟨some 62, some (53, true), .ldn 2 (.t 61)⟩,
 ⟨some 63, some (53, true), .cv (.t 54) [(.t 58), (.t 62)]⟩,
 ⟨some 64, some (53, true), .bin .lss (.t 63) (.c (.i .i64 0))⟩,
 ⟨some 65, none, .pick (.t 53) (.t 64) (.c (.b false))⟩] [])
 (.cond (.t 65) (.skip)
 (.exit 4)))
 (.blk 5 (.reg [⟨some 66, none, .mv (.t 12)⟩,
 ⟨some 67, none, .bin .sub (.t 66) (.c (.i .i64 1))⟩,
 ⟨some 12, none, .mv (.t 67)⟩])))))
 (.seq (.seq (.reg [⟨some 68, none, .mv (.t 11)⟩,
 ⟨some 69, none, .mv (.t 12)⟩,
 ⟨some 70, none, .bin .gtr (.t 68) (.t 69)⟩])
 (.cond (.t 70) (.exit 0)
 (.skip)))
 (.seq (.regd [⟨some 71, none, .mv (.t 0)⟩,
 ⟨some 72, none, .mv (.t 11)⟩,
 ⟨some 73, none, .mv (.t 0)⟩,
 ⟨some 74, none, .mv (.t 12)⟩,
 ⟨some 75, none, .mv (.t 0)⟩,
 ⟨some 76, none, .mv (.t 12)⟩,
 ⟨some 77, none, .ia 2 (.t 75) (.t 76)⟩,
 ⟨some 78, none, .ldn 2 (.t 77)⟩,
 ⟨some 79, none, .mv (.t 0)⟩,
 ⟨some 80, none, .mv (.t 11)⟩,
 ⟨some 81, none, .ia 2 (.t 79) (.t 80)⟩,
 ⟨some 82, none, .ldn 2 (.t 81)⟩,
 ⟨some 83, none, .ia 2 (.t 71) (.t 72)⟩,
 ⟨none, none, .st 2 (.t 83) (.t 78)⟩,
 ⟨some 84, none, .ia 2 (.t 73) (.t 74)⟩,
 ⟨none, none, .st 2 (.t 84) (.t 82)⟩] [])
 (.seq (.reg [⟨some 85, none, .mv (.t 11)⟩,
 ⟨some 86, none, .bin .add (.t 85) (.c (.i .i64 1))⟩,
 ⟨some 11, none, .mv (.t 86)⟩])
 (.reg [⟨some 87, none, .mv (.t 12)⟩,
 ⟨some 88, none, .bin .sub (.t 87) (.c (.i .i64 1))⟩,
 ⟨some 12, none, .mv (.t 88)⟩])))))))))
 (.seq (.reg [⟨some 89, none, .mv (.t 11)⟩,
 ⟨some 10, none, .mv (.t 89)⟩])
 (.ret)))))
theorem fn211 : fnOf Tryz.prog Tryz.prog.globals.size ext 211 = .go 90 [.t 10] v211 := by rw [fnOf, Tryz.func211]; kernel_rfl

/-- slices.partitionCmpFunc[clew/rset.Range] -/
def v212 : VC :=
.seq (.reg [⟨some 10, none, .mv (.c (.i .i64 0))⟩,
 ⟨some 11, none, .mv (.c (.b false))⟩])
 (.seq (.regd [⟨some 14, none, .mv (.t 0)⟩,
 ⟨some 15, none, .mv (.t 1)⟩,
 ⟨some 16, none, .mv (.t 0)⟩,
 ⟨some 17, none, .mv (.t 3)⟩,
 ⟨some 18, none, .mv (.t 0)⟩,
 ⟨some 19, none, .mv (.t 3)⟩,
 ⟨some 20, none, .ia 2 (.t 18) (.t 19)⟩,
 ⟨some 21, none, .ldn 2 (.t 20)⟩,
 ⟨some 22, none, .mv (.t 0)⟩,
 ⟨some 23, none, .mv (.t 1)⟩,
 ⟨some 24, none, .ia 2 (.t 22) (.t 23)⟩,
 ⟨some 25, none, .ldn 2 (.t 24)⟩,
 ⟨some 26, none, .ia 2 (.t 14) (.t 15)⟩,
 ⟨none, none, .st 2 (.t 26) (.t 21)⟩,
 ⟨some 27, none, .ia 2 (.t 16) (.t 17)⟩,
 ⟨none, none, .st 2 (.t 27) (.t 25)⟩] [])
 (.seq (.reg [⟨some 28, none, .mv (.t 1)⟩,
 ⟨some 29, none, .bin .add (.t 28) (.c (.i .i64 1))⟩,
 ⟨some 30, none, .mv (.t 2)⟩,
 ⟨some 31, none, .bin .sub (.t 30) (.c (.i .i64 1))⟩,
 ⟨some 12, none, .mv (.t 29)⟩,
 ⟨some 13, none, .mv (.t 31)⟩])
 (.seq (.blk 0 (.loop (.seq (.seq (.regd [⟨some 32, none, .mv (.t 12)⟩,
 ⟨some 33, none, .mv (.t 13)⟩,
 ⟨some 34, none, .bin .leq (.t 32) (.t 33)⟩,
 ⟨some 35, none, .mv (.t 34)⟩,
 ⟨some 36, some (35, true), .mv (.t 4)⟩,
 ⟨some 37, some (35, true), .mv (.t 0)⟩,
 ⟨some 38, some (35, true), .mv (.t 12)⟩,
 ⟨some 39, some (35, true), .ia 2 (.t 37) (.t 38)⟩,
 ⟨some 40, some (35, true), .ldn 2 (.t 39)⟩,
 ⟨some 41, some (35, true), .mv (.t 0)⟩,
 ⟨some 42, some (35, true), .mv (.t 1)⟩,
 ⟨some 43, some (35, true), .ia 2 (.t 41) (.t 42)⟩,
 ⟨some 44, some (35, true), .ldn 2 (.t 43)⟩,
 ⟨some 45, some (35, true), .cv (.t 36) [(.t 40), (.t 44)]⟩,
 ⟨some 46, some (35, true), .bin .lss (.t 45) (.c (.i .i64 0))⟩,
 ⟨some 47, none, .pick (.t 35) (.t 46) (.c (.b false))⟩] [])
 (.cond (.t 47) (.skip)
 (.exit 0)))
 (.blk 1 (.reg [⟨some 48, none, .mv (.t 12)⟩,
 ⟨some 49, none, .bin .add (.t 48) (.c (.i .i64 1))⟩,
 ⟨some 12, none, .mv (.t 49)⟩])))))
 (.seq (.blk 2 (.loop (.seq (.seq (.regd [⟨some 50, none, .mv (.t 12)⟩,
 ⟨some 51, none, .mv (.t 13)⟩,
 ⟨some 52, none, .bin .leq (.t 50) (.t 51)⟩,
 ⟨some 53, none, .mv (.t 52)⟩,
 ⟨some 54, some (53, true), .mv (.t 4)⟩,
 ⟨some 55, some (53, true), .mv (.t 0)⟩,
 ⟨some 56, some (53, true), .mv (.t 13)⟩,
 ⟨some 57, some (53, true), .ia 2 (.t 55) (.t 56)⟩,
 ⟨some 58, some (53, true), .ldn 2 (.t 57)⟩,
 ⟨some 59, some (53, true), .mv (.t 0)⟩,
 ⟨some 60, some (53, true), .mv (.t 1)⟩,
 ⟨some 61, some (53, true), .ia 2 (.t 59) (.t 60)⟩,
 ⟨some 62, some (53, true), .ldn 2 (.t 61)⟩,
 ⟨some 63, some (53, true), .cv (.t 54) [(.t 58), (.t 62)]⟩,
 ⟨some 64, some (53, true), .bin .lss (.t 63) (.c (.i .i64 0))⟩,
 ⟨some 65, some (53, true), .un .not (.t 64)⟩,
 ⟨some 66, none, .pick (.t 53) (.t 65) (.c (.b false))⟩] [])
 (.cond (.t 66) (.skip)
 (.exit 2)))
 (.blk 3 (.reg [⟨some 67, none, .mv (.t 13)⟩,
 ⟨some 68, none, .bin .sub (.t 67) (.c (.i .i64 1))⟩,
 ⟨some 13, none, .mv (.t 68)⟩])))))
 (.seq (.seq (.reg [⟨some 69, none, .mv (.t 12)⟩,
 ⟨some 70, none, .mv (.t 13)⟩,
 ⟨some 71, none, .bin .gtr (.t 69) (.t 70)⟩])
 (.cond (.t 71) (.seq (.regd [⟨some 72, none, .mv (.t 0)⟩,
 ⟨some 73, none, .mv (.t 13)⟩,
 ⟨some 74, none, .mv (.t 0)⟩,
 ⟨some 75, none, .mv (.t 1)⟩,
 ⟨some 76, none, .mv (.t 0)⟩,
 ⟨some 77, none, .mv (.t 1)⟩,
 ⟨some 78, none, .ia 2 (.t 76) (.t 77)⟩,
 ⟨some 79, none, .ldn 2 (.t 78)⟩,
 ⟨some 80, none, .mv (.t 0)⟩,
 ⟨some 81, none, .mv (.t 13)⟩,
 ⟨some 82, none, .ia 2 (.t 80) (.t 81)⟩,
 ⟨some 83, none, .ldn 2 (.t 82)⟩,
 ⟨some 84, none, .ia 2 (.t 72) (.t 73)⟩,
 ⟨none, none, .st 2 (.t 84) (.t 79)⟩,
 ⟨some 85, none, .ia 2 (.t 74) (.t 75)⟩,
 ⟨none, none, .st 2 (.t 85) (.t 83)⟩] [])
 (.seq (.reg [⟨some 86, none, .mv (.t 13)⟩,
 ⟨some 10, none, .mv (.t 86)⟩,
 ⟨some 11, none, .mv (.c (.b true))⟩])
 (.ret)))
 (.skip)))
 (.seq (.regd [⟨some 87, none, .mv (.t 0)⟩,
 ⟨some 88, none, .mv (.t 12)⟩,
 ⟨some 89, none, .mv (.t 0)⟩,
 ⟨some 90, none, .mv (.t 13)⟩,
 ⟨some 91, none, .mv (.t 0)⟩,
 ⟨some 92, none, .mv (.t 13)⟩,
 ⟨some 93, none, .ia 2 (.t 91) (.t 92)⟩,
 ⟨some 94, none, .ldn 2 (.t 93)⟩,
 ⟨some 95, none, .mv (.t 0)⟩,
 ⟨some 96, none, .mv (.t 12)⟩,
 ⟨some 97, none, .ia 2 (.t 95) (.t 96)⟩,
 ⟨some 98, none, .ldn 2 (.t 97)⟩,
 ⟨some 99, none, .ia 2 (.t 87) (.t 88)⟩,
 ⟨none, none, .st 2 (.t 99) (.t 94)⟩,
 ⟨some 100, none, .ia 2 (.t 89) (.t 90)⟩,
 ⟨none, none, .st 2 (.t 100) (.t 98)⟩] [])
 (.seq (.reg [⟨some 101, none, .mv (.t 12)⟩,
 ⟨some 102, none, .bin .add (.t 101) (.c (.i .i64 1))⟩,
 ⟨some 12, none, .mv (.t 102)⟩])
 (.seq (.reg [⟨some 103, none, .mv (.t 13)⟩,
 ⟨some 104, none, .bin .sub (.t 103) (.c (.i .i64 1))⟩,
 ⟨some 13, none, .mv (.t 104)⟩])
 (.seq (.blk 4 (.loop (.blk 5 (.seq (.blk 6 (.loop (.seq (.seq (.regd [⟨some 105, none, .mv (.t 12)⟩,
 ⟨some 106, none, .mv (.t 13)⟩,
 ⟨some 107, none, .bin .leq (.t 105) (.t 106)⟩,
 ⟨some 108, none, .mv (.t 107)⟩,
 ⟨some 109, some (108, true), .mv (.t 4)⟩,
 ⟨some 110, some (108, true), .mv (.t 0)⟩,
 ⟨some 111, some (108, true), .mv (.t 12)⟩,
 ⟨some 112, some (108, true), .ia 2 (.t 110) (.t 111)⟩,
 ⟨some 113, some (108, true), .ldn 2 (.t 112)⟩,
 ⟨some 114, some (108, true), .mv (.t 0)⟩,
 ⟨some 115, some (108, true), .mv (.t 1)⟩,
 ⟨some 116, some (108, true), .ia 2 (.t 114) (.t 115)⟩,
 ⟨some 117, some (108, true), .ldn 2 (.t 116)⟩,
 ⟨some 118, some (108, true), .cv (.t 109) [(.t 113), (.t 117)]⟩,
 ⟨some 119, some (108, true), .bin .lss (.t 118) (.c (.i .i64 0))⟩,
 ⟨some 120, none, .pick (.t 108) (.t 119) (.c (.b false))⟩] [])
 (.cond (.t 120) (.skip)
 (.exit 6)))
 (.blk 7 (.reg [⟨some 121, none, .mv (.t 12)⟩,
 ⟨some 122, none, .bin .add (.t 121) (.c (.i .i64 1))⟩,
 ⟨some 12, none, .mv (.t 122)⟩])))))
 (.seq (.blk 8 (.loop (.seq (.seq (.regd [⟨some 123, none, .mv (.t 12)⟩,
 ⟨some 124, none, .mv (.t 13)⟩,
 ⟨some 125, none, .bin .leq (.t 123) (.t 124)⟩,
 ⟨some 126, none, .mv (.t 125)⟩,
 ⟨some 127, some (126, true), .mv (.t 4)⟩,
 ⟨some 128, some (126, true), .mv (.t 0)⟩,
 ⟨some 129, some (126, true), .mv (.t 13)⟩,
 ⟨some 130, some (126, true), .ia 2 (.t 128) (.t 129)⟩,
 ⟨some 131, some (126, true), .ldn 2 (.t 130)⟩,
 ⟨some 132, some (126, true), .mv (.t 0)⟩,
 ⟨some 133, some (126, true), .mv (.t 1)⟩,
 ⟨some 134, some (126, true), .ia 2 (.t 132) (.t 133)⟩,
 ⟨some 135, some (126, true), .ldn 2 (.t 134)⟩,
 ⟨some 136, some (126, true), .cv (.t 127) [(.t 131), (.t 135)]⟩,
 ⟨some 137, some (126, true), .bin .lss (.t 136) (.c (.i .i64 0))⟩,
 ⟨some 138, some (126, true), .un .not (.t 137)⟩,
 ⟨some 139, none, .pick (.t 126) (.t 138) (.c (.b false))⟩] [])
 (.cond (.t 139) (.skip)
 (.exit 8)))
 (.blk 9 (.reg [⟨some 140, none, .mv (.t 13)⟩,
 ⟨some 141, none, .bin .sub (.t 140) (.c (.i .i64 1))⟩,
 ⟨some 13, none, .mv (.t 141)⟩])))))
 (.seq (.seq (.reg [⟨some 142, none, .mv (.t 12)⟩,
 ⟨some 143, none, .mv (.t 13)⟩,
 ⟨some 144, none, .bin .gtr (.t 142) (.t 143)⟩])
 (.cond (.t 144) (.exit 4)
 (.skip)))
 (.seq (.regd [⟨some 145, none, .mv (.t 0)⟩,
 ⟨some 146, none, .mv (.t 12)⟩,
 ⟨some 147, none, .mv (.t 0)⟩,
 ⟨some 148, none, .mv (.t 13)⟩,
 ⟨some 149, none, .mv (.t 0)⟩,
 ⟨some 150, none, .mv (.t 13)⟩,
 ⟨some 151, none, .ia 2 (.t 149) (.t 150)⟩,
 ⟨some 152, none, .ldn 2 (.t 151)⟩,
 ⟨some 153, none, .mv (.t 0)⟩,
 ⟨some 154, none, .mv (.t 12)⟩,
 ⟨some 155, none, .ia 2 (.t 153) (.t 154)⟩,
 ⟨some 156, none, .ldn 2 (.t 155)⟩,
 ⟨some 157, none, .ia 2 (.t 145) (.t 146)⟩,
 ⟨none, none, .st 2 (.t 157) (.t 152)⟩,
 ⟨some 158, none, .ia 2 (.t 147) (.t 148)⟩,
 ⟨none, none, .st 2 (.t 158) (.t 156)⟩] [])
 (.seq (.reg [⟨some 159, none, .mv (.t 12)⟩,
 ⟨some 160, none, .bin .add (.t 159) (.c (.i .i64 1))⟩,
 ⟨some 12, none, .mv (.t 160)⟩])
 (.reg [⟨some 161, none, .mv (.t 13)⟩,
 ⟨some 162, none, .bin .sub (.t 161) (.c (.i .i64 1))⟩,
 ⟨some 13, none, .mv (.t 162)⟩])))))))))
 (.seq (.regd [⟨some 163, none, .mv (.t 0)⟩,
 ⟨some 164, none, .mv (.t 13)⟩,
 ⟨some 165, none, .mv (.t 0)⟩,
 ⟨some 166, none, .mv (.t 1)⟩,
 ⟨some 167, none, .mv (.t 0)⟩,
 ⟨some 168, none, .mv (.t 1)⟩,
 ⟨some 169, none, .ia 2 (.t 167) (.t 168)⟩,
 ⟨some 170, none, .ldn 2 (.t 169)⟩,
 ⟨some 171, none, .mv (.t 0)⟩,
 ⟨some 172, none, .mv (.t 13)⟩,
 ⟨some 173, none, .ia 2 (.t 171) (.t 172)⟩,
 ⟨some 174, none, .ldn 2 (.t 173)⟩,
 ⟨some 175, none, .ia 2 (.t 163) (.t 164)⟩,
 ⟨none, none, .st 2 (.t 175) (.t 170)⟩,
 ⟨some 176, none, .ia 2 (.t 165) (.t 166)⟩,
 ⟨none, none, .st 2 (.t 176) (.t 174)⟩] [])
 (.seq (.reg [⟨some 177, none, .mv (.t 13)⟩,
 ⟨some 10, none, .mv (.t 177)⟩,
 ⟨some 11, none, .mv (.c (.b false))⟩])
 (.ret))))))))))))
theorem fn212 : fnOf Tryz.prog Tryz.prog.globals.size ext 212 = .go 178 [.t 10, .t 11] v212 := by rw [fnOf, Tryz.func212]; kernel_rfl

/-- math/bits.Len32 -/
def v213 : VC :=
.seq (.reg [⟨some 2, none, .mv (.c (.i .i64 0))⟩])
 (.seq (.seq (.reg [⟨some 3, none, .mv (.t 0)⟩,
 ⟨some 4, none, .bin .geq (.t 3) (.c (.i .u32 65536))⟩])
 (.cond (.t 4) (.seq (.reg [⟨some 5, none, .mv (.t 0)⟩,
 ⟨some 6, none, .bin .shr (.t 5) (.c (.i .u64 16))⟩,
 ⟨some 0, none, .mv (.t 6)⟩])
 (.reg [⟨some 2, none, .mv (.c (.i .i64 16))⟩]))
 (.skip)))
 (.seq (.seq (.reg [⟨some 7, none, .mv (.t 0)⟩,
 ⟨some 8, none, .bin .geq (.t 7) (.c (.i .u32 256))⟩])
 (.cond (.t 8) (.seq (.reg [⟨some 9, none, .mv (.t 0)⟩,
 ⟨some 10, none, .bin .shr (.t 9) (.c (.i .u64 8))⟩,
 ⟨some 0, none, .mv (.t 10)⟩])
 (.reg [⟨some 11, none, .mv (.t 2)⟩,
 ⟨some 12, none, .bin .add (.t 11) (.c (.i .i64 8))⟩,
 ⟨some 2, none, .mv (.t 12)⟩]))
 (.skip)))
 (.seq (.reg [⟨some 13, none, .mv (.t 2)⟩,
 ⟨some 14, none, .mv (.t 0)⟩,
 ⟨some 15, none, .cvi .u8 (.t 14)⟩,
 ⟨some 16, none, .ixs (.c (.s ⟨#[0, 1, 2, 2, 3, 3, 3, 3, 4, 4, 4, 4, 4, 4, 4, 4, 5, 5, 5, 5, 5, 5, 5, 5, 5, 5, 5, 5, 5, 5, 5, 5, 6, 6, 6, 6, 6, 6, 6, 6, 6, 6, 6, 6, 6, 6, 6, 6, 6, 6, 6, 6, 6, 6, 6, 6, 6, 6, 6, 6, 6, 6, 6, 6, 7, 7, 7, 7, 7, 7, 7, 7, 7, 7, 7, 7, 7, 7, 7, 7, 7, 7, 7, 7, 7, 7, 7, 7, 7, 7, 7, 7, 7, 7, 7, 7, 7, 7, 7, 7, 7, 7, 7, 7, 7, 7, 7, 7, 7, 7, 7, 7, 7, 7, 7, 7, 7, 7, 7, 7, 7, 7, 7, 7, 7, 7, 7, 7, 8, 8, 8, 8, 8, 8, 8, 8, 8, 8, 8, 8, 8, 8, 8, 8, 8, 8, 8, 8, 8, 8, 8, 8, 8, 8, 8, 8, 8, 8, 8, 8, 8, 8, 8, 8, 8, 8, 8, 8, 8, 8, 8, 8, 8, 8, 8, 8, 8, 8, 8, 8, 8, 8, 8, 8, 8, 8, 8, 8, 8, 8, 8, 8, 8, 8, 8, 8, 8, 8, 8, 8, 8, 8, 8, 8, 8, 8, 8, 8, 8, 8, 8, 8, 8, 8, 8, 8, 8, 8, 8, 8, 8, 8, 8, 8, 8, 8, 8, 8, 8, 8, 8, 8, 8, 8, 8, 8, 8, 8, 8, 8, 8, 8, 8, 8, 8, 8, 8, 8, 8, 8, 8, 8, 8, 8, 8, 8]⟩)) (.t 15)⟩,
 ⟨some 17, none, .cvi .i64 (.t 16)⟩,
 ⟨some 18, none, .bin .add (.t 13) (.t 17)⟩,
 ⟨some 2, none, .mv (.t 18)⟩])
 (.ret))))
theorem fn213 : fnOf Tryz.prog Tryz.prog.globals.size ext 213 = .go 19 [.t 2] v213 := by rw [fnOf, Tryz.func213]; kernel_rfl

/-- math/bits.Len64 -/
def v214 : VC :=
.seq (.reg [⟨some 2, none, .mv (.c (.i .i64 0))⟩])
 (.seq (.seq (.reg [⟨some 3, none, .mv (.t 0)⟩,
 ⟨some 4, none, .bin .geq (.t 3) (.c (.i .u64 4294967296))⟩])
 (.cond (.t 4) (.seq (.reg [⟨some 5, none, .mv (.t 0)⟩,
 ⟨some 6, none, .bin .shr (.t 5) (.c (.i .u64 32))⟩,
 ⟨some 0, none, .mv (.t 6)⟩])
 (.reg [⟨some 2, none, .mv (.c (.i .i64 32))⟩]))
 (.skip)))
 (.seq (.seq (.reg [⟨some 7, none, .mv (.t 0)⟩,
 ⟨some 8, none, .bin .geq (.t 7) (.c (.i .u64 65536))⟩])
 (.cond (.t 8) (.seq (.reg [⟨some 9, none, .mv (.t 0)⟩,
 ⟨some 10, none, .bin .shr (.t 9) (.c (.i .u64 16))⟩,
 ⟨some 0, none, .mv (.t 10)⟩])
 (.reg [⟨some 11, none, .mv (.t 2)⟩,
 ⟨some 12, none, .bin .add (.t 11) (.c (.i .i64 16))⟩,
 ⟨some 2, none, .mv (.t 12)⟩]))
 (.skip)))
 (.seq (.seq (.reg [⟨some 13, none, .mv (.t 0)⟩,
 ⟨some 14, none, .bin .geq (.t 13) (.c (.i .u64 256))⟩])
 (.cond (.t 14) (.seq (.reg [⟨some 15, none, .mv (.t 0)⟩,
 ⟨some 16, none, .bin .shr (.t 15) (.c (.i .u64 8))⟩,
 ⟨some 0, none, .mv (.t 16)⟩])
 (.reg [⟨some 17, none, .mv (.t 2)⟩,
 ⟨some 18, none, .bin .add (.t 17) (.c (.i .i64 8))⟩,
 ⟨some 2, none, .mv (.t 18)⟩]))
 (.skip)))
 (.seq (.reg [⟨some 19, none, .mv (.t 2)⟩,
 ⟨some 20, none, .mv (.t 0)⟩,
 ⟨some 21, none, .cvi .u8 (.t 20)⟩,
 ⟨some 22, none, .ixs (.c (.s ⟨#[0, 1, 2, 2, 3, 3, 3, 3, 4, 4, 4, 4, 4, 4, 4, 4, 5, 5, 5, 5, 5, 5, 5, 5, 5, 5, 5, 5, 5, 5, 5, 5, 6, 6, 6, 6, 6, 6, 6, 6, 6, 6, 6, 6, 6, 6, 6, 6, 6, 6, 6, 6, 6, 6, 6, 6, 6, 6, 6, 6, 6, 6, 6, 6, 7, 7, 7, 7, 7, 7, 7, 7, 7, 7, 7, 7, 7, 7, 7, 7, 7, 7, 7, 7, 7, 7, 7, 7, 7, 7, 7, 7, 7, 7, 7, 7, 7, 7, 7, 7, 7, 7, 7, 7, 7, 7, 7, 7, 7, 7, 7, 7, 7, 7, 7, 7, 7, 7, 7, 7, 7, 7, 7, 7, 7, 7, 7, 7, 8, 8, 8, 8, 8, 8, 8, 8, 8, 8, 8, 8, 8, 8, 8, 8, 8, 8, 8, 8, 8, 8, 8, 8, 8, 8, 8, 8, 8, 8, 8, 8, 8, 8, 8, 8, 8, 8, 8, 8, 8, 8, 8, 8, 8, 8, 8, 8, 8, 8, 8, 8, 8, 8, 8, 8, 8, 8, 8, 8, 8, 8, 8, 8, 8, 8, 8, 8, 8, 8, 8, 8, 8, 8, 8, 8, 8, 8, 8, 8, 8, 8, 8, 8, 8, 8, 8, 8, 8, 8, 8, 8, 8, 8, 8, 8, 8, 8, 8, 8, 8, 8, 8, 8, 8, 8, 8, 8, 8, 8, 8, 8, 8, 8, 8, 8, 8, 8, 8, 8, 8, 8, 8, 8, 8, 8, 8, 8]⟩)) (.t 21)⟩,
 ⟨some 23, none, .cvi .i64 (.t 22)⟩,
 ⟨some 24, none, .bin .add (.t 19) (.t 23)⟩,
 ⟨some 2, none, .mv (.t 24)⟩])
 (.ret)))))
theorem fn214 : fnOf Tryz.prog Tryz.prog.globals.size ext 214 = .go 25 [.t 2] v214 := by rw [fnOf, Tryz.func214]; kernel_rfl

/-- unicode/utf8.decodeRuneSlow -/
def v215 : VC :=
.seq (.reg [⟨some 2, none, .mv (.c (.i .i32 0))⟩,
 ⟨some 3, none, .mv (.c (.i .i64 0))⟩])
 (.seq (.reg [⟨some 13, none, .mv (.t 0)⟩,
 ⟨some 14, none, .len 1 (.t 13)⟩,
 ⟨some 4, none, .mv (.t 14)⟩])
 (.seq (.seq (.reg [⟨some 15, none, .mv (.t 4)⟩,
 ⟨some 16, none, .bin .lss (.t 15) (.c (.i .i64 1))⟩])
 (.cond (.t 16) (.seq (.reg [⟨some 2, none, .mv (.c (.i .i32 65533))⟩,
 ⟨some 3, none, .mv (.c (.i .i64 0))⟩])
 (.ret))
 (.skip)))
 (.seq (.reg [⟨some 17, none, .mv (.t 0)⟩,
 ⟨some 18, none, .ia 1 (.t 17) (.c (.i .i64 0))⟩,
 ⟨some 19, none, .ld (.t 18)⟩,
 ⟨some 5, none, .mv (.t 19)⟩])
 (.seq (.reg [⟨some 20, none, .mv (.t 5)⟩,
 ⟨some 21, none, .iaA 256 1 (.c (.p (some (1, 0)))) (.t 20)⟩,
 ⟨some 22, none, .ld (.t 21)⟩,
 ⟨some 6, none, .mv (.t 22)⟩])
 (.seq (.seq (.reg [⟨some 23, none, .mv (.t 6)⟩,
 ⟨some 24, none, .bin .geq (.t 23) (.c (.i .u8 240))⟩])
 (.cond (.t 24) (.seq (.reg [⟨some 25, none, .mv (.t 6)⟩,
 ⟨some 26, none, .cvi .i32 (.t 25)⟩,
 ⟨some 27, none, .bin .shl (.t 26) (.c (.i .u64 31))⟩,
 ⟨some 28, none, .bin .shr (.t 27) (.c (.i .u64 31))⟩,
 ⟨some 7, none, .mv (.t 28)⟩])
 (.seq (.reg [⟨some 29, none, .mv (.t 0)⟩,
 ⟨some 30, none, .ia 1 (.t 29) (.c (.i .i64 0))⟩,
 ⟨some 31, none, .ld (.t 30)⟩,
 ⟨some 32, none, .cvi .i32 (.t 31)⟩,
 ⟨some 33, none, .mv (.t 7)⟩,
 ⟨some 34, none, .bin .andNot (.t 32) (.t 33)⟩,
 ⟨some 35, none, .mv (.t 7)⟩,
 ⟨some 36, none, .bin .and (.c (.i .i32 65533)) (.t 35)⟩,
 ⟨some 37, none, .bin .or (.t 34) (.t 36)⟩,
 ⟨some 2, none, .mv (.t 37)⟩,
 ⟨some 3, none, .mv (.c (.i .i64 1))⟩])
 (.ret)))
 (.skip)))
 (.seq (.reg [⟨some 38, none, .mv (.t 6)⟩,
 ⟨some 39, none, .bin .and (.t 38) (.c (.i .u8 7))⟩,
 ⟨some 40, none, .cvi .i64 (.t 39)⟩,
 ⟨some 8, none, .mv (.t 40)⟩])
 (.seq (.reg [⟨some 41, none, .mv (.t 6)⟩,
 ⟨some 42, none, .bin .shr (.t 41) (.c (.i .u64 4))⟩,
 ⟨some 43, none, .iaA 16 2 (.c (.p (some (2, 0)))) (.t 42)⟩,
 ⟨some 44, none, .ldn 2 (.t 43)⟩,
 ⟨some 9, none, .alloc 323 [(.i .u8 0), (.i .u8 0)]⟩,
 ⟨none, none, .st 2 (.t 9) (.t 44)⟩])
 (.seq (.seq (.reg [⟨some 45, none, .mv (.t 4)⟩,
 ⟨some 46, none, .mv (.t 8)⟩,
 ⟨some 47, none, .bin .lss (.t 45) (.t 46)⟩])
 (.cond (.t 47) (.seq (.reg [⟨some 2, none, .mv (.c (.i .i32 65533))⟩,
 ⟨some 3, none, .mv (.c (.i .i64 1))⟩])
 (.ret))
 (.skip)))
 (.seq (.reg [⟨some 48, none, .mv (.t 0)⟩,
 ⟨some 49, none, .ia 1 (.t 48) (.c (.i .i64 1))⟩,
 ⟨some 50, none, .ld (.t 49)⟩,
 ⟨some 10, none, .mv (.t 50)⟩])
 (.seq (.seq (.reg [⟨some 51, none, .mv (.t 10)⟩,
 ⟨some 52, none, .fa 0 (.t 9)⟩,
 ⟨some 53, none, .ld (.t 52)⟩,
 ⟨some 54, none, .bin .lss (.t 51) (.t 53)⟩,
 ⟨some 55, none, .mv (.t 54)⟩,
 ⟨some 56, some (55, false), .fa 1 (.t 9)⟩,
 ⟨some 57, some (55, false), .ld (.t 56)⟩,
 ⟨some 58, some (55, false), .mv (.t 10)⟩,
 ⟨some 59, some (55, false), .bin .lss (.t 57) (.t 58)⟩,
 ⟨some 60, none, .pick (.t 55) (.c (.b true)) (.t 59)⟩])
 (.cond (.t 60) (.seq (.reg [⟨some 2, none, .mv (.c (.i .i32 65533))⟩,
 ⟨some 3, none, .mv (.c (.i .i64 1))⟩])
 (.ret))
 (.skip)))
 (.seq (.seq (.reg [⟨some 61, none, .mv (.t 8)⟩,
 ⟨some 62, none, .bin .leq (.t 61) (.c (.i .i64 2))⟩])
 (.cond (.t 62) (.seq (.reg [⟨some 63, none, .mv (.t 5)⟩,
 ⟨some 64, none, .bin .and (.t 63) (.c (.i .u8 31))⟩,
 ⟨some 65, none, .cvi .i32 (.t 64)⟩,
 ⟨some 66, none, .bin .shl (.t 65) (.c (.i .u64 6))⟩,
 ⟨some 67, none, .mv (.t 10)⟩,
 ⟨some 68, none, .bin .and (.t 67) (.c (.i .u8 63))⟩,
 ⟨some 69, none, .cvi .i32 (.t 68)⟩,
 ⟨some 70, none, .bin .or (.t 66) (.t 69)⟩,
 ⟨some 2, none, .mv (.t 70)⟩,
 ⟨some 3, none, .mv (.c (.i .i64 2))⟩])
 (.ret))
 (.skip)))
 (.seq (.reg [⟨some 71, none, .mv (.t 0)⟩,
 ⟨some 72, none, .ia 1 (.t 71) (.c (.i .i64 2))⟩,
 ⟨some 73, none, .ld (.t 72)⟩,
 ⟨some 11, none, .mv (.t 73)⟩])
 (.seq (.seq (.reg [⟨some 74, none, .mv (.t 11)⟩,
 ⟨some 75, none, .bin .lss (.t 74) (.c (.i .u8 128))⟩,
 ⟨some 76, none, .mv (.t 75)⟩,
 ⟨some 77, some (76, false), .mv (.t 11)⟩,
 ⟨some 78, some (76, false), .bin .lss (.c (.i .u8 191)) (.t 77)⟩,
 ⟨some 79, none, .pick (.t 76) (.c (.b true)) (.t 78)⟩])
 (.cond (.t 79) (.seq (.reg [⟨some 2, none, .mv (.c (.i .i32 65533))⟩,
 ⟨some 3, none, .mv (.c (.i .i64 1))⟩])
 (.ret))
 (.skip)))
 (.seq (.seq (.reg [⟨some 80, none, .mv (.t 8)⟩,
 ⟨some 81, none, .bin .leq (.t 80) (.c (.i .i64 3))⟩])
 (.cond (.t 81) (.seq (.reg [⟨some 82, none, .mv (.t 5)⟩,
 ⟨some 83, none, .bin .and (.t 82) (.c (.i .u8 15))⟩,
 ⟨some 84, none, .cvi .i32 (.t 83)⟩,
 ⟨some 85, none, .bin .shl (.t 84) (.c (.i .u64 12))⟩,
 ⟨some 86, none, .mv (.t 10)⟩,
 ⟨some 87, none, .bin .and (.t 86) (.c (.i .u8 63))⟩,
 ⟨some 88, none, .cvi .i32 (.t 87)⟩,
 ⟨some 89, none, .bin .shl (.t 88) (.c (.i .u64 6))⟩,
 ⟨some 90, none, .bin .or (.t 85) (.t 89)⟩,
 ⟨some 91, none, .mv (.t 11)⟩,
 ⟨some 92, none, .bin .and (.t 91) (.c (.i .u8 63))⟩,
 ⟨some 93, none, .cvi .i32 (.t 92)⟩,
 ⟨some 94, none, .bin .or (.t 90) (.t 93)⟩,
 ⟨some 2, none, .mv (.t 94)⟩,
 ⟨some 3, none, .mv (.c (.i .i64 3))⟩])
 (.ret))
 (.skip)))
 (.seq (.reg [⟨some 95, none, .mv (.t 0)⟩,
 ⟨some 96, none, .ia 1 (.t 95) (.c (.i .i64 3))⟩,
 ⟨some 97, none, .ld (.t 96)⟩,
 ⟨some 12, none, .mv (.t 97)⟩])
 (.seq (.seq (.reg [⟨some 98, none, .mv (.t 12)⟩,
 ⟨some 99, none, .bin .lss (.t 98) (.c (.i .u8 128))⟩,
 ⟨some 100, none, .mv (.t 99)⟩,
 ⟨some 101, some (100, false), .mv (.t 12)⟩,
 ⟨some 102, some (100, false), .bin .lss (.c (.i .u8 191)) (.t 101)⟩,
 ⟨some 103, none, .pick (.t 100) (.c (.b true)) (.t 102)⟩])
 (.cond (.t 103) (.seq (.reg [⟨some 2, none, .mv (.c (.i .i32 65533))⟩,
 ⟨some 3, none, .mv (.c (.i .i64 1))⟩])
 (.ret))
 (.skip)))
 (.seq (.reg [⟨some 104, none, .mv (.t 5)⟩,
 ⟨some 105, none, .bin .and (.t 104) (.c (.i .u8 7))⟩,
 ⟨some 106, none, .cvi .i32 (.t 105)⟩,
 ⟨some 107, none, .bin .shl (.t 106) (.c (.i .u64 18))⟩,
 ⟨some 108, none, .mv (.t 10)⟩,
 ⟨some 109, none, .bin .and (.t 108) (.c (.i .u8 63))⟩,
 ⟨some 110, none, .cvi .i32 (.t 109)⟩,
 ⟨some 111, none, .bin .shl (.t 110) (.c (.i .u64 12))⟩,
 ⟨some 112, none, .bin .or (.t 107) (.t 111)⟩,
 ⟨some 113, none, .mv (.t 11)⟩,
 ⟨some 114, none, .bin .and (.t 113) (.c (.i .u8 63))⟩,
 ⟨some 115, none, .cvi .i32 (.t 114)⟩,
 ⟨some 116, none, .bin .shl (.t 115) (.c (.i .u64 6))⟩,
 ⟨some 117, none, .bin .or (.t 112) (.t 116)⟩,
 ⟨some 118, none, .mv (.t 12)⟩,
 ⟨some 119, none, .bin .and (.t 118) (.c (.i .u8 63))⟩,
 ⟨some 120, none, .cvi .i32 (.t 119)⟩,
 ⟨some 121, none, .bin .or (.t 117) (.t 120)⟩,
 ⟨some 2, none, .mv (.t 121)⟩,
 ⟨some 3, none, .mv (.c (.i .i64 4))⟩])
 (.ret))))))))))))))))))
theorem fn215 : fnOf Tryz.prog Tryz.prog.globals.size ext 215 = .go 122 [.t 2, .t 3] v215 := by rw [fnOf, Tryz.func215]; kernel_rfl

/-- slices.IndexFunc[[]clew/rset.Range,clew/rset.Range] -/
def v216 : VC :=
.seq (.reg [⟨some 4, none, .mv (.c (.i .i64 0))⟩])
 (.seq (.seq (.reg [⟨some 6, none, .mv (.t 0)⟩,
 ⟨some 7, none, .len 1 (.t 6)⟩,
 ⟨some 8, none, .mv (.c (.i .i64 0))⟩])
 (.blk 0 (.loop (.seq (.reg [⟨some 9, none, .bin .lss (.t 8) (.t 7)⟩])
 (.seq (.cond (.t 9) (.skip)
 (.exit 0))
 (.seq (.blk 1 (.seq (.reg [⟨some 10, none, .mv (.t 8)⟩,
 ⟨some 5, none, .mv (.t 10)⟩])
 (.seq (.reg [⟨some 11, none, .mv (.t 1)⟩,
 ⟨some 12, none, .mv (.t 0)⟩,
 ⟨some 13, none, .mv (.t 5)⟩,
 ⟨some 14, none, .ia 2 (.t 12) (.t 13)⟩,
 ⟨some 15, none, .ldn 2 (.t 14)⟩,
 ⟨some 16, none, .cv (.t 11) [(.t 15)]⟩])
 (.cond (.t 16) (.seq (.reg [⟨some 17, none, .mv (.t 5)⟩,
 ⟨some 4, none, .mv (.t 17)⟩])
 (.ret))
 (.skip)))))
 (.reg [⟨some 18, none, .bin .add (.t 8) (.c (.i .i64 1))⟩,
 ⟨some 8, none, .mv (.t 18)⟩])))))))
 (.seq (.reg [⟨some 4, none, .mv (.c (.i .i64 (-1)))⟩])
 (.ret)))
theorem fn216 : fnOf Tryz.prog Tryz.prog.globals.size ext 216 = .go 19 [.t 4] v216 := by rw [fnOf, Tryz.func216]; kernel_rfl

/-- clew/class.must -/
def v217 : VC :=
.seq (.reg [⟨some 2, none, .mv (.c (.sl none 0 0 true))⟩])
 (.seq (.reg [⟨some 6, none, .mv (.t 0)⟩,
 ⟨some 7, none, .call 241 [(.t 6)]⟩,
 ⟨some 5, none, .mv (.t 7)⟩,
 ⟨some 8, none, .ext (.t 5) 0⟩,
 ⟨some 9, none, .ext (.t 5) 1⟩,
 ⟨some 3, none, .mv (.t 8)⟩,
 ⟨some 4, none, .mv (.t 9)⟩])
 (.seq (.reg [⟨some 10, none, .mv (.t 3)⟩,
 ⟨some 2, none, .mv (.t 10)⟩])
 (.ret)))
theorem fn217 : fnOf Tryz.prog Tryz.prog.globals.size ext 217 = .go 11 [.t 2] v217 := by rw [fnOf, Tryz.func217]; kernel_rfl

/-- clew/fold.Fold -/
def v218 : VC :=
.seq (.reg [⟨some 2, none, .mv (.c (.i .i64 0))⟩])
 (.seq (.seq (.reg [⟨some 4, none, .mv (.t 0)⟩,
 ⟨some 5, none, .call 242 [(.t 4)]⟩,
 ⟨some 3, none, .mv (.t 5)⟩])
 (.seq (.reg [⟨some 6, none, .mv (.t 3)⟩,
 ⟨some 7, none, .len 1 (.t 6)⟩,
 ⟨some 8, none, .bin .gtr (.t 7) (.c (.i .i64 0))⟩])
 (.cond (.t 8) (.seq (.reg [⟨some 9, none, .mv (.t 3)⟩,
 ⟨some 10, none, .ia 1 (.t 9) (.c (.i .i64 0))⟩,
 ⟨some 11, none, .ld (.t 10)⟩,
 ⟨some 2, none, .mv (.t 11)⟩])
 (.ret))
 (.skip))))
 (.seq (.reg [⟨some 12, none, .mv (.t 0)⟩,
 ⟨some 2, none, .mv (.t 12)⟩])
 (.ret)))
theorem fn218 : fnOf Tryz.prog Tryz.prog.globals.size ext 218 = .go 13 [.t 2] v218 := by rw [fnOf, Tryz.func218]; kernel_rfl

/-- clew/delta.numbers -/
def v219 : VC :=
.seq (.reg [⟨some 1, none, .box 8 (.t 0)⟩,
 ⟨some 2, none, .alloc 123 [(.i .i64 0), (.i .i64 0), (.i .i64 0), (.i .i64 0), (.i .i64 0), (.i .i64 0)]⟩])
 (.seq (.reg [⟨some 3, none, .fa 1 (.t 1)⟩,
 ⟨some 4, none, .ld (.t 3)⟩,
 ⟨some 5, none, .fa 2 (.t 1)⟩,
 ⟨some 6, none, .ld (.t 5)⟩,
 ⟨some 7, none, .fa 3 (.t 1)⟩,
 ⟨some 8, none, .ld (.t 7)⟩,
 ⟨some 9, none, .fa 4 (.t 1)⟩,
 ⟨some 10, none, .ld (.t 9)⟩,
 ⟨some 11, none, .fa 5 (.t 1)⟩,
 ⟨some 12, none, .ld (.t 11)⟩,
 ⟨some 13, none, .fa 6 (.t 1)⟩,
 ⟨some 14, none, .ld (.t 13)⟩,
 ⟨some 15, none, .build [(.i .i64 0), (.i .i64 0), (.i .i64 0), (.i .i64 0), (.i .i64 0), (.i .i64 0)] [(0, 1, (.t 4)), (1, 1, (.t 6)), (2, 1, (.t 8)), (3, 1, (.t 10)), (4, 1, (.t 12)), (5, 1, (.t 14))]⟩,
 ⟨none, none, .st 6 (.t 2) (.t 15)⟩])
 (.ret))
theorem fn219 : fnOf Tryz.prog Tryz.prog.globals.size ext 219 = .go 16 [.c 2 (some 6)] v219 := by rw [fnOf, Tryz.func219]; kernel_rfl

/-- clew/vint.Signed -/
def v220 : VC :=
.seq (.reg [⟨some 2, none, .mv (.c (.sl none 0 0 true))⟩])
 (.seq (.reg [⟨some 3, none, .mv (.t 0)⟩,
 ⟨some 4, none, .call 243 [(.t 3)]⟩,
 ⟨some 5, none, .call 222 [(.t 4)]⟩,
 ⟨some 2, none, .mv (.t 5)⟩])
 (.ret))
theorem fn220 : fnOf Tryz.prog Tryz.prog.globals.size ext 220 = .go 6 [.t 2] v220 := by rw [fnOf, Tryz.func220]; kernel_rfl

/-- clew/delta.moved -/
def v221 : VC :=
.seq (.reg [⟨some 4, none, .mv (.c (.sl none 0 0 true))⟩])
 (.seq (.reg [⟨some 5, none, .mv (.c (.sl none 0 0 true))⟩])
 (.seq (.reg [⟨some 6, none, .mv (.c (.i .i64 0))⟩,
 ⟨some 7, none, .mv (.c (.i .i64 0))⟩])
 (.seq (.seq (.reg [⟨some 10, none, .mv (.t 1)⟩,
 ⟨some 11, none, .len 1 (.t 10)⟩,
 ⟨some 12, none, .mv (.c (.i .i64 0))⟩])
 (.blk 0 (.loop (.seq (.reg [⟨some 13, none, .bin .lss (.t 12) (.t 11)⟩])
 (.seq (.cond (.t 13) (.skip)
 (.exit 0))
 (.seq (.blk 1 (.seq (.reg [⟨some 14, none, .mv (.t 12)⟩,
 ⟨some 15, none, .ia 1 (.t 10) (.t 12)⟩,
 ⟨some 16, none, .ld (.t 15)⟩,
 ⟨some 8, none, .mv (.t 14)⟩,
 ⟨some 9, none, .mv (.t 16)⟩])
 (.seq (.seq (.reg [⟨some 17, none, .mv (.t 9)⟩,
 ⟨some 18, none, .mv (.t 0)⟩,
 ⟨some 19, none, .mv (.t 8)⟩,
 ⟨some 20, none, .ia 1 (.t 18) (.t 19)⟩,
 ⟨some 21, none, .ld (.t 20)⟩,
 ⟨some 22, none, .bin .eql (.t 17) (.t 21)⟩])
 (.cond (.t 22) (.exit 1)
 (.skip)))
 (.seq (.reg [⟨some 23, none, .mv (.t 5)⟩,
 ⟨some 24, none, .mv (.t 8)⟩,
 ⟨some 25, none, .mv (.t 7)⟩,
 ⟨some 26, none, .bin .sub (.t 24) (.t 25)⟩,
 ⟨some 27, none, .cvi .u64 (.t 26)⟩,
 ⟨some 28, none, .call 222 [(.t 27)]⟩,
 ⟨some 29, none, .app ⟨1, (some 5)⟩ 1 (.t 23) (.t 28)⟩,
 ⟨some 5, none, .mv (.t 29)⟩])
 (.seq (.reg [⟨some 30, none, .mv (.t 5)⟩,
 ⟨some 31, none, .mv (.t 9)⟩,
 ⟨some 32, none, .mv (.t 0)⟩,
 ⟨some 33, none, .mv (.t 8)⟩,
 ⟨some 34, none, .ia 1 (.t 32) (.t 33)⟩,
 ⟨some 35, none, .ld (.t 34)⟩,
 ⟨some 36, none, .bin .sub (.t 31) (.t 35)⟩,
 ⟨some 37, none, .call 220 [(.t 36)]⟩,
 ⟨some 38, none, .app ⟨1, (some 5)⟩ 1 (.t 30) (.t 37)⟩,
 ⟨some 5, none, .mv (.t 38)⟩])
 (.reg [⟨some 39, none, .mv (.t 6)⟩,
 ⟨some 40, none, .bin .add (.t 39) (.c (.i .i64 1))⟩,
 ⟨some 41, none, .mv (.t 8)⟩,
 ⟨some 42, none, .bin .add (.t 41) (.c (.i .i64 1))⟩,
 ⟨some 6, none, .mv (.t 40)⟩,
 ⟨some 7, none, .mv (.t 42)⟩]))))))
 (.reg [⟨some 43, none, .bin .add (.t 12) (.c (.i .i64 1))⟩,
 ⟨some 12, none, .mv (.t 43)⟩])))))))
 (.seq (.reg [⟨some 44, none, .mv (.t 6)⟩,
 ⟨some 45, none, .cvi .u64 (.t 44)⟩,
 ⟨some 46, none, .call 222 [(.t 45)]⟩,
 ⟨some 47, none, .mv (.t 5)⟩,
 ⟨some 48, none, .app ⟨1, (some 5)⟩ 1 (.t 46) (.t 47)⟩,
 ⟨some 4, none, .mv (.t 48)⟩])
 (.ret)))))
theorem fn221 : fnOf Tryz.prog Tryz.prog.globals.size ext 221 = .go 49 [.t 4] v221 := by rw [fnOf, Tryz.func221]; kernel_rfl

/-- clew/vint.Bytes -/
def v222 : VC :=
.seq (.reg [⟨some 2, none, .mv (.c (.sl none 0 0 true))⟩])
 (.seq (.reg [⟨some 3, none, .mv (.c (.sl none 0 0 true))⟩])
 (.seq (.blk 0 (.loop (.seq (.seq (.reg [⟨some 4, none, .mv (.t 0)⟩,
 ⟨some 5, none, .bin .geq (.t 4) (.c (.i .u64 128))⟩])
 (.cond (.t 5) (.skip)
 (.exit 0)))
 (.seq (.blk 1 (.reg [⟨some 8, none, .mv (.t 3)⟩,
 ⟨some 9, none, .mv (.t 0)⟩,
 ⟨some 10, none, .bin .rem (.t 9) (.c (.i .u64 128))⟩,
 ⟨some 11, none, .bin .or (.t 10) (.c (.i .u64 128))⟩,
 ⟨some 12, none, .cvi .u8 (.t 11)⟩,
 ⟨some 13, none, .bsl 1 1 [(.i .u8 0)] [(0, 1, (.t 12))]⟩,
 ⟨some 14, none, .app ⟨1, (some 5)⟩ 1 (.t 8) (.t 13)⟩,
 ⟨some 3, none, .mv (.t 14)⟩]))
 (.reg [⟨some 6, none, .mv (.t 0)⟩,
 ⟨some 7, none, .bin .shr (.t 6) (.c (.i .u64 7))⟩,
 ⟨some 0, none, .mv (.t 7)⟩])))))
 (.seq (.reg [⟨some 15, none, .mv (.t 3)⟩,
 ⟨some 16, none, .mv (.t 0)⟩,
 ⟨some 17, none, .cvi .u8 (.t 16)⟩,
 ⟨some 18, none, .bsl 1 1 [(.i .u8 0)] [(0, 1, (.t 17))]⟩,
 ⟨some 19, none, .app ⟨1, (some 5)⟩ 1 (.t 15) (.t 18)⟩,
 ⟨some 2, none, .mv (.t 19)⟩])
 (.ret))))
theorem fn222 : fnOf Tryz.prog Tryz.prog.globals.size ext 222 = .go 20 [.t 2] v222 := by rw [fnOf, Tryz.func222]; kernel_rfl

/-- clew/event.within -/
def v223 : VC :=
.seq (.reg [⟨some 6, none, .mv (.c (.b false))⟩])
 (.seq (.reg [⟨some 7, none, .mv (.t 0)⟩,
 ⟨some 8, none, .mv (.t 1)⟩,
 ⟨some 9, none, .bin .geq (.t 7) (.t 8)⟩,
 ⟨some 10, none, .mv (.t 9)⟩,
 ⟨some 11, some (10, true), .mv (.t 0)⟩,
 ⟨some 12, some (10, true), .mv (.t 2)⟩,
 ⟨some 13, some (10, true), .bin .leq (.t 11) (.t 12)⟩,
 ⟨some 14, none, .pick (.t 10) (.t 13) (.c (.b false))⟩,
 ⟨some 6, none, .mv (.t 14)⟩])
 (.ret))
theorem fn223 : fnOf Tryz.prog Tryz.prog.globals.size ext 223 = .go 15 [.t 6] v223 := by rw [fnOf, Tryz.func223]; kernel_rfl

/-- slices.ContainsFunc[[]int,int] -/
def v224 : VC :=
.seq (.reg [⟨some 4, none, .mv (.c (.b false))⟩])
 (.seq (.reg [⟨some 5, none, .mv (.t 0)⟩,
 ⟨some 6, none, .mv (.t 1)⟩,
 ⟨some 7, none, .call 244 [(.t 5), (.t 6)]⟩,
 ⟨some 8, none, .bin .geq (.t 7) (.c (.i .i64 0))⟩,
 ⟨some 4, none, .mv (.t 8)⟩])
 (.ret))
theorem fn224 : fnOf Tryz.prog Tryz.prog.globals.size ext 224 = .go 9 [.t 4] v224 := by rw [fnOf, Tryz.func224]; kernel_rfl

/-- (clew/event.State).Right$1 -/
def v225 : VC :=
.seq (.reg [⟨some 2, none, .mv (.c (.b false))⟩])
 (.seq (.reg [⟨some 3, none, .mv (.t 0)⟩,
 ⟨some 4, none, .call 223 [(.t 3), (.c (.i .i64 (-1))), (.c (.i .i64 65536))]⟩,
 ⟨some 5, none, .un .not (.t 4)⟩,
 ⟨some 2, none, .mv (.t 5)⟩])
 (.ret))
theorem fn225 : fnOf Tryz.prog Tryz.prog.globals.size ext 225 = .go 6 [.t 2] v225 := by rw [fnOf, Tryz.func225]; kernel_rfl

/-- clew/event.Same -/
def v226 : VC :=
.seq (.reg [⟨some 2, none, .box 8 (.t 0)⟩,
 ⟨some 3, none, .box 8 (.t 1)⟩,
 ⟨some 4, none, .mv (.c (.b false))⟩])
 (.seq (.reg [⟨some 6, none, .fa 0 (.t 2)⟩,
 ⟨some 7, none, .ld (.t 6)⟩,
 ⟨some 8, none, .fa 1 (.t 2)⟩,
 ⟨some 9, none, .ld (.t 8)⟩,
 ⟨some 10, none, .fa 2 (.t 2)⟩,
 ⟨some 11, none, .ld (.t 10)⟩,
 ⟨some 12, none, .fa 3 (.t 2)⟩,
 ⟨some 13, none, .ld (.t 12)⟩,
 ⟨some 14, none, .fa 4 (.t 2)⟩,
 ⟨some 15, none, .ld (.t 14)⟩,
 ⟨some 16, none, .fa 5 (.t 2)⟩,
 ⟨some 17, none, .ld (.t 16)⟩,
 ⟨some 18, none, .fa 6 (.t 2)⟩,
 ⟨some 19, none, .ld (.t 18)⟩,
 ⟨some 20, none, .build [(.i .i64 0), (.i .i64 0), (.i .i64 0), (.i .i64 0), (.i .i64 0), (.i .i64 0), (.i .i64 0)] [(0, 1, (.t 7)), (1, 1, (.t 9)), (2, 1, (.t 11)), (3, 1, (.t 13)), (4, 1, (.t 15)), (5, 1, (.t 17)), (6, 1, (.t 19))]⟩,
 ⟨some 21, none, .fa 0 (.t 3)⟩,
 ⟨some 22, none, .ld (.t 21)⟩,
 ⟨some 23, none, .fa 1 (.t 3)⟩,
 ⟨some 24, none, .ld (.t 23)⟩,
 ⟨some 25, none, .fa 2 (.t 3)⟩,
 ⟨some 26, none, .ld (.t 25)⟩,
 ⟨some 27, none, .fa 3 (.t 3)⟩,
 ⟨some 28, none, .ld (.t 27)⟩,
 ⟨some 29, none, .fa 4 (.t 3)⟩,
 ⟨some 30, none, .ld (.t 29)⟩,
 ⟨some 31, none, .fa 5 (.t 3)⟩,
 ⟨some 32, none, .ld (.t 31)⟩,
 ⟨some 33, none, .fa 6 (.t 3)⟩,
 ⟨some 34, none, .ld (.t 33)⟩,
 ⟨some 35, none, .build [(.i .i64 0), (.i .i64 0), (.i .i64 0), (.i .i64 0), (.i .i64 0), (.i .i64 0), (.i .i64 0)] [(0, 1, (.t 22)), (1, 1, (.t 24)), (2, 1, (.t 26)), (3, 1, (.t 28)), (4, 1, (.t 30)), (5, 1, (.t 32)), (6, 1, (.t 34))]⟩,
 ⟨some 36, none, .eqa false [(0, .i), (1, .i), (2, .i), (3, .i), (4, .i), (5, .i), (6, .i)] (.t 20) (.t 35)⟩,
 ⟨some 5, none, .mv (.t 36)⟩])
 (.seq (.reg [⟨some 37, none, .mv (.t 5)⟩,
 ⟨some 38, none, .mv (.t 37)⟩,
 ⟨some 39, some (38, true), .fa 7 (.t 2)⟩,
 ⟨some 40, some (38, true), .ld (.t 39)⟩,
 ⟨some 41, some (38, true), .fa 7 (.t 3)⟩,
 ⟨some 42, some (38, true), .ld (.t 41)⟩,
 ⟨some 43, some (38, true), .call 245 [(.t 40), (.t 42)]⟩,
 ⟨some 44, none, .pick (.t 38) (.t 43) (.c (.b false))⟩,
 ⟨some 4, none, .mv (.t 44)⟩])
 (.ret)))
theorem fn226 : fnOf Tryz.prog Tryz.prog.globals.size ext 226 = .go 45 [.t 4] v226 := by rw [fnOf, Tryz.func226]; kernel_rfl

/-- clew/vint.Get -/
def v227 : VC :=
.seq (.reg [⟨some 4, none, .mv (.c (.i .u64 0))⟩,
 ⟨some 5, none, .mv (.c (.i .i64 0))⟩,
 ⟨some 6, none, .mv (.c (.i .i64 0))⟩])
 (.seq (.seq (.reg [⟨some 11, none, .mv (.t 1)⟩,
 ⟨some 12, none, .bin .lss (.t 11) (.c (.i .i64 0))⟩,
 ⟨some 13, none, .mv (.t 12)⟩,
 ⟨some 14, some (13, false), .mv (.t 1)⟩,
 ⟨some 15, some (13, false), .mv (.t 0)⟩,
 ⟨some 16, some (13, false), .len 1 (.t 15)⟩,
 ⟨some 17, some (13, false), .bin .gtr (.t 14) (.t 16)⟩,
 ⟨some 18, none, .pick (.t 13) (.c (.b true)) (.t 17)⟩])
 (.cond (.t 18) (.seq (.reg [⟨some 4, none, .mv (.c (.i .u64 0))⟩,
 ⟨some 5, none, .mv (.c (.i .i64 0))⟩,
 ⟨some 6, none, .mv (.c (.i .i64 10))⟩])
 (.ret))
 (.skip)))
 (.seq (.reg [⟨some 7, none, .mv (.c (.i .u64 0))⟩])
 (.seq (.seq (.reg [⟨some 19, none, .mv (.t 0)⟩,
 ⟨some 20, none, .len 1 (.t 19)⟩,
 ⟨some 21, none, .mv (.t 1)⟩,
 ⟨some 22, none, .bin .sub (.t 20) (.t 21)⟩,
 ⟨some 23, none, .mn [(.t 22), (.c (.i .i64 10))]⟩,
 ⟨some 24, none, .mv (.c (.i .i64 0))⟩])
 (.blk 0 (.loop (.seq (.reg [⟨some 25, none, .bin .lss (.t 24) (.t 23)⟩])
 (.seq (.cond (.t 25) (.skip)
 (.exit 0))
 (.seq (.blk 1 (.seq (.reg [⟨some 26, none, .mv (.t 24)⟩,
 ⟨some 8, none, .mv (.t 26)⟩])
 (.seq (.reg [⟨some 27, none, .mv (.t 0)⟩,
 ⟨some 28, none, .mv (.t 1)⟩,
 ⟨some 29, none, .mv (.t 8)⟩,
 ⟨some 30, none, .bin .add (.t 28) (.t 29)⟩,
 ⟨some 31, none, .ia 1 (.t 27) (.t 30)⟩,
 ⟨some 32, none, .ld (.t 31)⟩,
 ⟨some 33, none, .cvi .u64 (.t 32)⟩,
 ⟨some 9, none, .mv (.t 33)⟩])
 (.seq (.reg [⟨some 34, none, .mv (.t 9)⟩,
 ⟨some 35, none, .bin .rem (.t 34) (.c (.i .u64 128))⟩,
 ⟨some 10, none, .mv (.t 35)⟩])
 (.seq (.seq (.reg [⟨some 36, none, .mv (.t 8)⟩,
 ⟨some 37, none, .bin .mul (.c (.i .i64 7)) (.t 36)⟩,
 ⟨some 38, none, .mv (.t 10)⟩,
 ⟨some 39, none, .call 246 [(.t 38)]⟩,
 ⟨some 40, none, .bin .add (.t 37) (.t 39)⟩,
 ⟨some 41, none, .bin .gtr (.t 40) (.c (.i .i64 64))⟩])
 (.cond (.t 41) (.seq (.reg [⟨some 4, none, .mv (.c (.i .u64 0))⟩,
 ⟨some 5, none, .mv (.c (.i .i64 0))⟩,
 ⟨some 6, none, .mv (.c (.i .i64 11))⟩])
 (.ret))
 (.skip)))
 (.seq (.reg [⟨some 42, none, .mv (.t 7)⟩,
 ⟨some 43, none, .mv (.t 10)⟩,
 ⟨some 44, none, .mv (.t 8)⟩,
 ⟨some 45, none, .bin .mul (.c (.i .i64 7)) (.t 44)⟩,
 ⟨some 46, none, .bin .shl (.t 43) (.t 45)⟩,
 ⟨some 47, none, .bin .or (.t 42) (.t 46)⟩,
 ⟨some 7, none, .mv (.t 47)⟩])
 (.seq (.reg [⟨some 48, none, .mv (.t 9)⟩,
 ⟨some 49, none, .bin .lss (.t 48) (.c (.i .u64 128))⟩])
 (.cond (.t 49) (.seq (.seq (.reg [⟨some 50, none, .mv (.t 9)⟩,
 ⟨some 51, none, .bin .eql (.t 50) (.c (.i .u64 0))⟩,
 ⟨some 52, none, .mv (.t 51)⟩,
 ⟨some 53, some (52, true), .mv (.t 8)⟩,
 ⟨some 54, some (52, true), .bin .gtr (.t 53) (.c (.i .i64 0))⟩,
 ⟨some 55, none, .pick (.t 52) (.t 54) (.c (.b false))⟩])
 (.cond (.t 55) (.seq (.reg [⟨some 4, none, .mv (.c (.i .u64 0))⟩,
 ⟨some 5, none, .mv (.c (.i .i64 0))⟩,
 ⟨some 6, none, .mv (.c (.i .i64 11))⟩])
 (.ret))
 (.skip)))
 (.seq (.reg [⟨some 56, none, .mv (.t 7)⟩,
 ⟨some 57, none, .mv (.t 8)⟩,
 ⟨some 58, none, .bin .add (.t 57) (.c (.i .i64 1))⟩,
 ⟨some 4, none, .mv (.t 56)⟩,
 ⟨some 5, none, .mv (.t 58)⟩,
 ⟨some 6, none, .mv (.c (.i .i64 0))⟩])
 (.ret)))
 (.skip)))))))))
 (.reg [⟨some 59, none, .bin .add (.t 24) (.c (.i .i64 1))⟩,
 ⟨some 24, none, .mv (.t 59)⟩])))))))
 (.seq (.seq (.reg [⟨some 60, none, .mv (.t 0)⟩,
 ⟨some 61, none, .len 1 (.t 60)⟩,
 ⟨some 62, none, .mv (.t 1)⟩,
 ⟨some 63, none, .bin .sub (.t 61) (.t 62)⟩,
 ⟨some 64, none, .bin .lss (.t 63) (.c (.i .i64 10))⟩])
 (.cond (.t 64) (.seq (.reg [⟨some 4, none, .mv (.c (.i .u64 0))⟩,
 ⟨some 5, none, .mv (.c (.i .i64 0))⟩,
 ⟨some 6, none, .mv (.c (.i .i64 14))⟩])
 (.ret))
 (.skip)))
 (.seq (.reg [⟨some 4, none, .mv (.c (.i .u64 0))⟩,
 ⟨some 5, none, .mv (.c (.i .i64 0))⟩,
 ⟨some 6, none, .mv (.c (.i .i64 11))⟩])
 (.ret))))))
theorem fn227 : fnOf Tryz.prog Tryz.prog.globals.size ext 227 = .go 65 [.t 4, .t 5, .t 6] v227 := by rw [fnOf, Tryz.func227]; kernel_rfl

/-- clew/vint.GetSigned -/
def v228 : VC :=
.seq (.reg [⟨some 4, none, .mv (.c (.i .i64 0))⟩,
 ⟨some 5, none, .mv (.c (.i .i64 0))⟩,
 ⟨some 6, none, .mv (.c (.i .i64 0))⟩])
 (.seq (.reg [⟨some 11, none, .mv (.t 0)⟩,
 ⟨some 12, none, .mv (.t 1)⟩,
 ⟨some 13, none, .call 227 [(.t 11), (.t 12)]⟩,
 ⟨some 10, none, .mv (.t 13)⟩,
 ⟨some 14, none, .ext (.t 10) 0⟩,
 ⟨some 15, none, .ext (.t 10) 1⟩,
 ⟨some 16, none, .ext (.t 10) 2⟩,
 ⟨some 7, none, .mv (.t 14)⟩,
 ⟨some 8, none, .mv (.t 15)⟩,
 ⟨some 9, none, .mv (.t 16)⟩])
 (.seq (.reg [⟨some 17, none, .mv (.t 7)⟩,
 ⟨some 18, none, .call 247 [(.t 17)]⟩,
 ⟨some 19, none, .mv (.t 8)⟩,
 ⟨some 20, none, .mv (.t 9)⟩,
 ⟨some 4, none, .mv (.t 18)⟩,
 ⟨some 5, none, .mv (.t 19)⟩,
 ⟨some 6, none, .mv (.t 20)⟩])
 (.ret)))
theorem fn228 : fnOf Tryz.prog Tryz.prog.globals.size ext 228 = .go 21 [.t 4, .t 5, .t 6] v228 := by rw [fnOf, Tryz.func228]; kernel_rfl

/-- internal/strconv.log10Pow2 -/
def v229 : VC :=
.seq (.reg [⟨some 2, none, .mv (.c (.i .i64 0))⟩])
 (.seq (.reg [⟨some 3, none, .mv (.t 0)⟩,
 ⟨some 4, none, .bin .mul (.t 3) (.c (.i .i64 78913))⟩,
 ⟨some 5, none, .bin .shr (.t 4) (.c (.i .u64 18))⟩,
 ⟨some 2, none, .mv (.t 5)⟩])
 (.ret))
theorem fn229 : fnOf Tryz.prog Tryz.prog.globals.size ext 229 = .go 6 [.t 2] v229 := by rw [fnOf, Tryz.func229]; kernel_rfl

/-- internal/strconv.bool2[int] -/
def v230 : VC :=
.seq (.reg [⟨some 2, none, .mv (.c (.i .i64 0))⟩])
 (.seq (.seq (.reg [⟨some 3, none, .mv (.t 0)⟩])
 (.cond (.t 3) (.seq (.reg [⟨some 2, none, .mv (.c (.i .i64 1))⟩])
 (.ret))
 (.skip)))
 (.seq (.reg [⟨some 2, none, .mv (.c (.i .i64 0))⟩])
 (.ret)))
theorem fn230 : fnOf Tryz.prog Tryz.prog.globals.size ext 230 = .go 4 [.t 2] v230 := by rw [fnOf, Tryz.func230]; kernel_rfl

/-- internal/strconv.isPowerOfTwo -/
def v231 : VC :=
.seq (.reg [⟨some 2, none, .mv (.c (.b false))⟩])
 (.seq (.reg [⟨some 3, none, .mv (.t 0)⟩,
 ⟨some 4, none, .mv (.t 0)⟩,
 ⟨some 5, none, .bin .sub (.t 4) (.c (.i .i64 1))⟩,
 ⟨some 6, none, .bin .and (.t 3) (.t 5)⟩,
 ⟨some 7, none, .bin .eql (.t 6) (.c (.i .i64 0))⟩,
 ⟨some 2, none, .mv (.t 7)⟩])
 (.ret))
theorem fn231 : fnOf Tryz.prog Tryz.prog.globals.size ext 231 = .go 8 [.t 2] v231 := by rw [fnOf, Tryz.func231]; kernel_rfl

/-- math/bits.TrailingZeros -/
def v232 : VC :=
.seq (.reg [⟨some 2, none, .mv (.c (.i .i64 0))⟩])
 (.seq (.cond (.c (.b false)) (.seq (.reg [⟨some 3, none, .mv (.t 0)⟩,
 ⟨some 4, none, .cvi .u32 (.t 3)⟩,
 ⟨some 5, none, .call 248 [(.t 4)]⟩,
 ⟨some 2, none, .mv (.t 5)⟩])
 (.ret))
 (.skip))
 (.seq (.reg [⟨some 6, none, .mv (.t 0)⟩,
 ⟨some 7, none, .call 249 [(.t 6)]⟩,
 ⟨some 2, none, .mv (.t 7)⟩])
 (.ret)))
theorem fn232 : fnOf Tryz.prog Tryz.prog.globals.size ext 232 = .go 8 [.t 2] v232 := by rw [fnOf, Tryz.func232]; kernel_rfl

/-- (*clew/parse.parser).ends -/
def v233 : VC :=
.seq (.reg [⟨some 2, none, .mv (.c (.b false))⟩])
 (.seq (.reg [⟨some 3, none, .mv (.t 0)⟩,
 ⟨some 4, none, .call 250 [(.t 3)]⟩])
 (.seq (.reg [⟨some 5, none, .mv (.t 0)⟩,
 ⟨some 6, none, .call 163 [(.t 5)]⟩,
 ⟨some 7, none, .mv (.t 6)⟩,
 ⟨some 8, some (7, false), .mv (.t 0)⟩,
 ⟨some 9, some (7, false), .mv (.t 0)⟩,
 ⟨some 10, some (7, false), .nc (.t 9)⟩,
 ⟨some 11, some (7, false), .fa 1 (.t 10)⟩,
 ⟨some 12, some (7, false), .ld (.t 11)⟩,
 ⟨some 13, some (7, false), .call 200 [(.t 8), (.t 12)]⟩,
 ⟨some 14, some (7, false), .bin .eql (.t 13) (.c (.i .u8 124))⟩,
 ⟨some 15, none, .pick (.t 7) (.c (.b true)) (.t 14)⟩,
 ⟨some 16, none, .mv (.t 15)⟩,
 ⟨some 17, some (16, false), .mv (.t 0)⟩,
 ⟨some 18, some (16, false), .mv (.t 0)⟩,
 ⟨some 19, some (16, false), .nc (.t 18)⟩,
 ⟨some 20, some (16, false), .fa 1 (.t 19)⟩,
 ⟨some 21, some (16, false), .ld (.t 20)⟩,
 ⟨some 22, some (16, false), .call 200 [(.t 17), (.t 21)]⟩,
 ⟨some 23, some (16, false), .bin .eql (.t 22) (.c (.i .u8 41))⟩,
 ⟨some 24, none, .pick (.t 16) (.c (.b true)) (.t 23)⟩,
 ⟨some 2, none, .mv (.t 24)⟩])
 (.ret)))
theorem fn233 : fnOf Tryz.prog Tryz.prog.globals.size ext 233 = .go 25 [.t 2] v233 := by rw [fnOf, Tryz.func233]; kernel_rfl

/-- (*clew/parse.parser).piece -/
def v234 : VC :=
.seq (.reg [⟨some 4, none, .mv (.c (.sl none 0 0 true))⟩])
 (.seq (.reg [⟨some 15, none, .mv (.t 0)⟩,
 ⟨some 16, none, .nc (.t 15)⟩,
 ⟨some 17, none, .fa 1 (.t 16)⟩,
 ⟨some 18, none, .ld (.t 17)⟩,
 ⟨some 5, none, .mv (.t 18)⟩])
 (.seq (.seq (.reg [⟨some 20, none, .mv (.t 0)⟩,
 ⟨some 21, none, .call 251 [(.t 20)]⟩,
 ⟨some 19, none, .mv (.t 21)⟩,
 ⟨some 22, none, .ext (.t 19) 0⟩,
 ⟨some 23, none, .ext (.t 19) 1⟩,
 ⟨some 6, none, .alloc 332 [(.i .i64 0), (.i .i64 0), (.i .i64 0), (.i .i64 0)]⟩,
 ⟨none, none, .st 4 (.t 6) (.t 22)⟩,
 ⟨some 7, none, .mv (.t 23)⟩])
 (.seq (.reg [⟨some 24, none, .mv (.t 7)⟩])
 (.cond (.t 24) (.reg [⟨some 25, none, .mv (.t 0)⟩,
 ⟨some 26, none, .mv (.t 5)⟩,
 ⟨some 27, none, .call 164 [(.t 25), (.c (.i .i64 31)), (.t 26)]⟩])
 (.skip))))
 (.seq (.seq (.reg [⟨some 28, none, .mv (.t 0)⟩,
 ⟨some 29, none, .nc (.t 28)⟩,
 ⟨some 30, none, .fa 8 (.t 29)⟩,
 ⟨some 31, none, .ld (.t 30)⟩,
 ⟨some 32, none, .bin .neq (.t 31) (.c (.i .i64 0))⟩])
 (.cond (.t 32) (.seq (.reg [⟨some 4, none, .mv (.c (.sl none 0 0 true))⟩])
 (.ret))
 (.skip)))
 (.seq (.reg [⟨some 34, none, .mv (.t 0)⟩,
 ⟨some 35, none, .mv (.t 1)⟩,
 ⟨some 36, none, .call 252 [(.t 34), (.t 35)]⟩,
 ⟨some 33, none, .mv (.t 36)⟩,
 ⟨some 37, none, .ext (.t 33) 0⟩,
 ⟨some 38, none, .ext (.t 33) 1⟩,
 ⟨some 8, none, .alloc 251 [(.i .i64 0), (.i .i64 0), (.i .i64 0), (.i .i64 0), (.i .i64 0), (.i .i64 0), (.i .i64 0), (.s ⟨#[]⟩), (.sl none 0 0 true), (.sl none 0 0 true), (.sl none 0 0 true)]⟩,
 ⟨none, none, .st 11 (.t 8) (.t 37)⟩,
 ⟨some 9, none, .mv (.t 38)⟩])
 (.seq (.seq (.reg [⟨some 39, none, .mv (.t 0)⟩,
 ⟨some 40, none, .nc (.t 39)⟩,
 ⟨some 41, none, .fa 8 (.t 40)⟩,
 ⟨some 42, none, .ld (.t 41)⟩,
 ⟨some 43, none, .bin .neq (.t 42) (.c (.i .i64 0))⟩])
 (.cond (.t 43) (.seq (.reg [⟨some 4, none, .mv (.c (.sl none 0 0 true))⟩])
 (.ret))
 (.skip)))
 (.seq (.reg [⟨some 44, none, .mv (.t 0)⟩,
 ⟨some 45, none, .call 250 [(.t 44)]⟩])
 (.seq (.seq (.reg [⟨some 47, none, .mv (.t 0)⟩,
 ⟨some 48, none, .call 251 [(.t 47)]⟩,
 ⟨some 46, none, .mv (.t 48)⟩,
 ⟨some 49, none, .ext (.t 46) 0⟩,
 ⟨some 50, none, .ext (.t 46) 1⟩,
 ⟨some 10, none, .alloc 332 [(.i .i64 0), (.i .i64 0), (.i .i64 0), (.i .i64 0)]⟩,
 ⟨none, none, .st 4 (.t 10) (.t 49)⟩,
 ⟨some 11, none, .mv (.t 50)⟩])
 (.seq (.reg [⟨some 51, none, .mv (.t 11)⟩])
 (.cond (.t 51) (.seq (.seq (.reg [⟨some 52, none, .mv (.t 9)⟩,
 ⟨some 53, none, .un .not (.t 52)⟩])
 (.cond (.t 53) (.seq (.reg [⟨some 54, none, .mv (.t 0)⟩,
 ⟨some 55, none, .mv (.t 0)⟩,
 ⟨some 56, none, .nc (.t 55)⟩,
 ⟨some 57, none, .fa 1 (.t 56)⟩,
 ⟨some 58, none, .ld (.t 57)⟩,
 ⟨some 59, none, .call 164 [(.t 54), (.c (.i .i64 31)), (.t 58)]⟩])
 (.seq (.reg [⟨some 4, none, .mv (.c (.sl none 0 0 true))⟩])
 (.ret)))
 (.skip)))
 (.seq (.reg [⟨some 60, none, .mv (.t 0)⟩,
 ⟨some 61, none, .fa 3 (.t 10)⟩,
 ⟨some 62, none, .ld (.t 61)⟩,
 ⟨some 63, none, .nc (.t 60)⟩,
 ⟨some 64, none, .fa 1 (.t 63)⟩,
 ⟨none, none, .st 1 (.t 64) (.t 62)⟩])
 (.seq (.reg [⟨some 65, none, .ldn 11 (.t 8)⟩,
 ⟨some 66, none, .mv (.t 5)⟩,
 ⟨some 67, none, .ldn 4 (.t 10)⟩,
 ⟨some 68, none, .call 253 [(.t 65), (.t 66), (.t 67)]⟩,
 ⟨none, none, .st 11 (.t 8) (.t 68)⟩])
 (.seq (.reg [⟨some 69, none, .mv (.t 0)⟩,
 ⟨some 70, none, .call 250 [(.t 69)]⟩])
 (.seq (.regd [⟨some 12, none, .alloc 332 [(.i .i64 0), (.i .i64 0), (.i .i64 0), (.i .i64 0)]⟩,
 ⟨some 72, none, .mv (.t 0)⟩,
 ⟨some 73, none, .nc (.t 72)⟩,
 ⟨some 74, none, .fa 0 (.t 73)⟩,
 ⟨some 75, none, .ld (.t 74)⟩,
 ⟨some 76, none, .mv (.t 0)⟩,
 ⟨some 77, none, .nc (.t 76)⟩,
 ⟨some 78, none, .fa 1 (.t 77)⟩,
 ⟨some 79, none, .ld (.t 78)⟩,
 ⟨some 80, none, .call 254 [(.t 75), (.t 79)]⟩,
 ⟨some 71, none, .mv (.t 80)⟩,
 ⟨some 81, none, .ext (.t 71) 0⟩,
 ⟨some 82, none, .ext (.t 71) 1⟩,
 ⟨some 83, none, .ext (.t 71) 2⟩,
 ⟨none, none, .st 4 (.t 12) (.t 81)⟩,
 ⟨some 13, none, .mv (.t 82)⟩,
 ⟨some 14, none, .mv (.t 83)⟩] [])
 (.seq (.reg [⟨some 84, none, .mv (.t 13)⟩,
 ⟨some 85, none, .mv (.t 84)⟩,
 ⟨some 86, some (85, false), .mv (.t 14)⟩,
 ⟨some 87, some (85, false), .bin .neq (.t 86) (.c (.i .i64 0))⟩,
 ⟨some 88, none, .pick (.t 85) (.c (.b true)) (.t 87)⟩])
 (.cond (.t 88) (.reg [⟨some 89, none, .mv (.t 0)⟩,
 ⟨some 90, none, .mv (.t 0)⟩,
 ⟨some 91, none, .nc (.t 90)⟩,
 ⟨some 92, none, .fa 1 (.t 91)⟩,
 ⟨some 93, none, .ld (.t 92)⟩,
 ⟨some 94, none, .call 164 [(.t 89), (.c (.i .i64 31)), (.t 93)]⟩])
 (.skip))))))))
 (.skip))))
 (.seq (.seq (.reg [⟨some 95, none, .fa 0 (.t 8)⟩,
 ⟨some 96, none, .fa 0 (.t 95)⟩,
 ⟨some 97, none, .ld (.t 96)⟩,
 ⟨some 98, none, .bin .eql (.t 97) (.c (.i .i64 0))⟩])
 (.cond (.t 98) (.seq (.reg [⟨some 4, none, .mv (.c (.sl none 0 0 true))⟩])
 (.ret))
 (.skip)))
 (.seq (.reg [⟨some 99, none, .ldn 11 (.t 8)⟩,
 ⟨some 100, none, .bsl 11 1 [(.i .i64 0), (.i .i64 0), (.i .i64 0), (.i .i64 0), (.i .i64 0), (.i .i64 0), (.i .i64 0), (.s ⟨#[]⟩), (.sl none 0 0 true), (.sl none 0 0 true), (.sl none 0 0 true)] [(0, 11, (.t 99))]⟩,
 ⟨some 4, none, .mv (.t 100)⟩])
 (.ret))))))))))
theorem fn234 : fnOf Tryz.prog Tryz.prog.globals.size ext 234 = .go 101 [.t 4] v234 := by rw [fnOf, Tryz.func234]; kernel_rfl

/-- clew/well.wide -/
def v235 : VC :=
.seq (.reg [⟨some 2, none, .mv (.c (.i .i64 0))⟩])
 (.seq (.seq (.reg [⟨some 3, none, .mv (.t 0)⟩,
 ⟨some 4, none, .bin .gtr (.t 3) (.c (.i .i64 1048576))⟩])
 (.cond (.t 4) (.seq (.reg [⟨some 2, none, .mv (.c (.i .i64 (-1)))⟩])
 (.ret))
 (.skip)))
 (.seq (.reg [⟨some 5, none, .mv (.t 0)⟩,
 ⟨some 2, none, .mv (.t 5)⟩])
 (.ret)))
theorem fn235 : fnOf Tryz.prog Tryz.prog.globals.size ext 235 = .go 6 [.t 2] v235 := by rw [fnOf, Tryz.func235]; kernel_rfl

/-- slices.siftDownCmpFunc[clew/rset.Range] -/
def v236 : VC :=
.seq (.reg [⟨some 12, none, .mv (.t 1)⟩,
 ⟨some 10, none, .mv (.t 12)⟩])
 (.blk 0 (.loop (.blk 1 (.seq (.reg [⟨some 13, none, .mv (.t 10)⟩,
 ⟨some 14, none, .bin .mul (.c (.i .i64 2)) (.t 13)⟩,
 ⟨some 15, none, .bin .add (.t 14) (.c (.i .i64 1))⟩,
 ⟨some 11, none, .mv (.t 15)⟩])
 (.seq (.seq (.reg [⟨some 16, none, .mv (.t 11)⟩,
 ⟨some 17, none, .mv (.t 2)⟩,
 ⟨some 18, none, .bin .geq (.t 16) (.t 17)⟩])
 (.cond (.t 18) (.exit 0)
 (.skip)))
 (.seq (.seq (.regd [⟨some 19, none, .mv (.t 11)⟩,
 ⟨some 20, none, .bin .add (.t 19) (.c (.i .i64 1))⟩,
 ⟨some 21, none, .mv (.t 2)⟩,
 ⟨some 22, none, .bin .lss (.t 20) (.t 21)⟩,
 ⟨some 23, none, .mv (.t 22)⟩,
 ⟨some 24, some (23, true), .mv (.t 4)⟩,
 ⟨some 25, some (23, true), .mv (.t 0)⟩,
 ⟨some 26, some (23, true), .mv (.t 3)⟩,
 ⟨some 27, some (23, true), .mv (.t 11)⟩,
 ⟨some 28, some (23, true), .bin .add (.t 26) (.t 27)⟩,
 ⟨some 29, some (23, true), .ia 2 (.t 25) (.t 28)⟩,
 ⟨some 30, some (23, true), .ldn 2 (.t 29)⟩,
 ⟨some 31, some (23, true), .mv (.t 0)⟩,
 ⟨some 32, some (23, true), .mv (.t 3)⟩,
 ⟨some 33, some (23, true), .mv (.t 11)⟩,
 ⟨some 34, some (23, true), .bin .add (.t 32) (.t 33)⟩,
 ⟨some 35, some (23, true), .bin .add (.t 34) (.c (.i .i64 1))⟩,
 ⟨some 36, some (23, true), .ia 2 (.t 31) (.t 35)⟩,
 ⟨some 37, some (23, true), .ldn 2 (.t 36)⟩,
 ⟨some 38, some (23, true), .cv (.t 24) [(.t 30), (.t 37)]⟩,
 ⟨some 39, some (23, true), .bin .lss (.t 38) (.c (.i .i64 0))⟩,
 ⟨some 40, none, .pick (.t 23) (.t 39) (.c (.b false))⟩] [])
 (.cond (.t 40) (.reg [⟨some 41, none, .mv (.t 11)⟩,
 ⟨some 42, none, .bin .add (.t 41) (.c (.i .i64 1))⟩,
 ⟨some 11, none, .mv (.t 42)⟩])
 (.skip)))
 (.seq (.seq (.regd [⟨some 43, none, .mv (.t 4)⟩,
 ⟨some 44, none, .mv (.t 0)⟩,
 ⟨some 45, none, .mv (.t 3)⟩,
 ⟨some 46, none, .mv (.t 10)⟩,
 ⟨some 47, none, .bin .add (.t 45) (.t 46)⟩,
 ⟨some 48, none, .ia 2 (.t 44) (.t 47)⟩,
 ⟨some 49, none, .ldn 2 (.t 48)⟩,
 ⟨some 50, none, .mv (.t 0)⟩,
 ⟨some 51, none, .mv (.t 3)⟩,
 ⟨some 52, none, .mv (.t 11)⟩,
 ⟨some 53, none, .bin .add (.t 51) (.t 52)⟩,
 ⟨some 54, none, .ia 2 (.t 50) (.t 53)⟩,
 ⟨some 55, none, .ldn 2 (.t 54)⟩,
 ⟨some 56, none, .cv (.t 43) [(.t 49), (.t 55)]⟩,
 ⟨some 57, none, .bin .lss (.t 56) (.c (.i .i64 0))⟩,
 ⟨some 58, none, .un .not (.t 57)⟩] [])
 (.cond (.t 58) (.ret)
 (.skip)))
 (.seq (.regd [⟨some 59, none, .mv (.t 0)⟩,
 ⟨some 60, none, .mv (.t 3)⟩,
 ⟨some 61, none, .mv (.t 10)⟩,
 ⟨some 62, none, .bin .add (.t 60) (.t 61)⟩,
 ⟨some 63, none, .mv (.t 0)⟩,
 ⟨some 64, none, .mv (.t 3)⟩,
 ⟨some 65, none, .mv (.t 11)⟩,
 ⟨some 66, none, .bin .add (.t 64) (.t 65)⟩,
 ⟨some 67, none, .mv (.t 0)⟩,
 ⟨some 68, none, .mv (.t 3)⟩,
 ⟨some 69, none, .mv (.t 11)⟩,
 ⟨some 70, none, .bin .add (.t 68) (.t 69)⟩,
 ⟨some 71, none, .ia 2 (.t 67) (.t 70)⟩,
 ⟨some 72, none, .ldn 2 (.t 71)⟩,
 ⟨some 73, none, .mv (.t 0)⟩,
 ⟨some 74, none, .mv (.t 3)⟩,
 ⟨some 75, none, .mv (.t 10)⟩,
 ⟨some 76, none, .bin .add (.t 74) (.t 75)⟩,
 ⟨some 77, none, .ia 2 (.t 73) (.t 76)⟩,
 ⟨some 78, none, .ldn 2 (.t 77)⟩,
 ⟨some 79, none, .ia 2 (.t 59) (.t 62)⟩,
 ⟨none, none, .st 2 (.t 79) (.t 72)⟩,
 ⟨some 80, none, .ia 2 (.t 63) (.t 66)⟩,
 ⟨none, none, .st 2 (.t 80) (.t 78)⟩] [])
 (.reg [⟨some 81, none, .mv (.t 11)⟩,
 ⟨some 10, none, .mv (.t 81)⟩])))))))))
theorem fn236 : fnOf Tryz.prog Tryz.prog.globals.size ext 236 = .go 82 [] v236 := by rw [fnOf, Tryz.func236]; kernel_rfl

/-- slices.nextPowerOfTwo -/
def v237 : VC :=
.seq (.reg [⟨some 2, none, .mv (.c (.i .u64 0))⟩])
 (.seq (.reg [⟨some 3, none, .mv (.t 0)⟩,
 ⟨some 4, none, .cvi .u64 (.t 3)⟩,
 ⟨some 5, none, .call 175 [(.t 4)]⟩,
 ⟨some 6, none, .bin .shl (.c (.i .u64 1)) (.t 5)⟩,
 ⟨some 2, none, .mv (.t 6)⟩])
 (.ret))
theorem fn237 : fnOf Tryz.prog Tryz.prog.globals.size ext 237 = .go 7 [.t 2] v237 := by rw [fnOf, Tryz.func237]; kernel_rfl

/-- (*slices.xorshift).Next -/
def v238 : VC :=
.seq (.reg [⟨some 2, none, .mv (.c (.i .u64 0))⟩])
 (.seq (.regd [⟨some 3, none, .mv (.t 0)⟩,
 ⟨some 4, none, .nc (.t 3)⟩,
 ⟨some 5, none, .ld (.t 4)⟩,
 ⟨some 6, none, .mv (.t 0)⟩,
 ⟨some 7, none, .nc (.t 6)⟩,
 ⟨some 8, none, .ld (.t 7)⟩,
 ⟨some 9, none, .bin .shl (.t 8) (.c (.i .u64 13))⟩,
 ⟨some 10, none, .bin .xor (.t 5) (.t 9)⟩,
 ⟨some 11, none, .nc (.t 3)⟩,
 ⟨none, none, .st 1 (.t 11) (.t 10)⟩] [])
 (.seq (.regd [⟨some 12, none, .mv (.t 0)⟩,
 ⟨some 13, none, .nc (.t 12)⟩,
 ⟨some 14, none, .ld (.t 13)⟩,
 ⟨some 15, none, .mv (.t 0)⟩,
 ⟨some 16, none, .nc (.t 15)⟩,
 ⟨some 17, none, .ld (.t 16)⟩,
 ⟨some 18, none, .bin .shr (.t 17) (.c (.i .u64 7))⟩,
 ⟨some 19, none, .bin .xor (.t 14) (.t 18)⟩,
 ⟨some 20, none, .nc (.t 12)⟩,
 ⟨none, none, .st 1 (.t 20) (.t 19)⟩] [])
 (.seq (.regd [⟨some 21, none, .mv (.t 0)⟩,
 ⟨some 22, none, .nc (.t 21)⟩,
 ⟨some 23, none, .ld (.t 22)⟩,
 ⟨some 24, none, .mv (.t 0)⟩,
 ⟨some 25, none, .nc (.t 24)⟩,
 ⟨some 26, none, .ld (.t 25)⟩,
 ⟨some 27, none, .bin .shl (.t 26) (.c (.i .u64 17))⟩,
 ⟨some 28, none, .bin .xor (.t 23) (.t 27)⟩,
 ⟨some 29, none, .nc (.t 21)⟩,
 ⟨none, none, .st 1 (.t 29) (.t 28)⟩] [])
 (.seq (.reg [⟨some 30, none, .mv (.t 0)⟩,
 ⟨some 31, none, .nc (.t 30)⟩,
 ⟨some 32, none, .ld (.t 31)⟩,
 ⟨some 2, none, .mv (.t 32)⟩])
 (.ret)))))
theorem fn238 : fnOf Tryz.prog Tryz.prog.globals.size ext 238 = .go 33 [.t 2] v238 := by rw [fnOf, Tryz.func238]; kernel_rfl

/-- slices.medianAdjacentCmpFunc[clew/rset.Range] -/
def v239 : VC :=
.seq (.reg [⟨some 8, none, .mv (.c (.i .i64 0))⟩])
 (.seq (.reg [⟨some 9, none, .mv (.t 0)⟩,
 ⟨some 10, none, .mv (.t 1)⟩,
 ⟨some 11, none, .bin .sub (.t 10) (.c (.i .i64 1))⟩,
 ⟨some 12, none, .mv (.t 1)⟩,
 ⟨some 13, none, .mv (.t 1)⟩,
 ⟨some 14, none, .bin .add (.t 13) (.c (.i .i64 1))⟩,
 ⟨some 15, none, .mv (.t 2)⟩,
 ⟨some 16, none, .mv (.t 3)⟩,
 ⟨some 17, none, .call 240 [(.t 9), (.t 11), (.t 12), (.t 14), (.t 15), (.t 16)]⟩,
 ⟨some 8, none, .mv (.t 17)⟩])
 (.ret))
theorem fn239 : fnOf Tryz.prog Tryz.prog.globals.size ext 239 = .go 18 [.t 8] v239 := by rw [fnOf, Tryz.func239]; kernel_rfl

/-- slices.medianCmpFunc[clew/rset.Range] -/
def v240 : VC :=
.seq (.reg [⟨some 12, none, .mv (.c (.i .i64 0))⟩])
 (.seq (.reg [⟨some 14, none, .mv (.t 0)⟩,
 ⟨some 15, none, .mv (.t 1)⟩,
 ⟨some 16, none, .mv (.t 2)⟩,
 ⟨some 17, none, .mv (.t 4)⟩,
 ⟨some 18, none, .mv (.t 5)⟩,
 ⟨some 19, none, .call 255 [(.t 14), (.t 15), (.t 16), (.t 17), (.t 18)]⟩,
 ⟨some 13, none, .mv (.t 19)⟩,
 ⟨some 20, none, .ext (.t 13) 0⟩,
 ⟨some 21, none, .ext (.t 13) 1⟩,
 ⟨some 1, none, .mv (.t 20)⟩,
 ⟨some 2, none, .mv (.t 21)⟩])
 (.seq (.reg [⟨some 23, none, .mv (.t 0)⟩,
 ⟨some 24, none, .mv (.t 2)⟩,
 ⟨some 25, none, .mv (.t 3)⟩,
 ⟨some 26, none, .mv (.t 4)⟩,
 ⟨some 27, none, .mv (.t 5)⟩,
 ⟨some 28, none, .call 255 [(.t 23), (.t 24), (.t 25), (.t 26), (.t 27)]⟩,
 ⟨some 22, none, .mv (.t 28)⟩,
 ⟨some 29, none, .ext (.t 22) 0⟩,
 ⟨some 30, none, .ext (.t 22) 1⟩,
 ⟨some 2, none, .mv (.t 29)⟩,
 ⟨some 3, none, .mv (.t 30)⟩])
 (.seq (.reg [⟨some 32, none, .mv (.t 0)⟩,
 ⟨some 33, none, .mv (.t 1)⟩,
 ⟨some 34, none, .mv (.t 2)⟩,
 ⟨some 35, none, .mv (.t 4)⟩,
 ⟨some 36, none, .mv (.t 5)⟩,
 ⟨some 37, none, .call 255 [(.t 32), (.t 33), (.t 34), (.t 35), (.t 36)]⟩,
 ⟨some 31, none, .mv (.t 37)⟩,
 ⟨some 38, none, .ext (.t 31) 0⟩,
 ⟨some 39, none, .ext (.t 31) 1⟩,
 ⟨some 1, none, .mv (.t 38)⟩,
 ⟨some 2, none, .mv (.t 39)⟩])
 (.seq (.reg [⟨some 40, none, .mv (.t 2)⟩,
 ⟨some 12, none, .mv (.t 40)⟩])
 (.ret)))))
theorem fn240 : fnOf Tryz.prog Tryz.prog.globals.size ext 240 = .go 41 [.t 12] v240 := by rw [fnOf, Tryz.func240]; kernel_rfl

/-- clew/class.Named -/
def v241 : VC :=
.seq (.reg [⟨some 1, none, .box 1 (.t 0)⟩,
 ⟨some 2, none, .mv (.c (.sl none 0 0 true))⟩,
 ⟨some 3, none, .mv (.c (.b false))⟩])
 (.seq (.reg [⟨some 6, none, .call 256 []⟩,
 ⟨some 4, none, .mv (.t 6)⟩])
 (.seq (.reg [⟨some 7, none, .mv (.t 4)⟩,
 ⟨some 8, none, .fnc 258 [] [(.t 1)]⟩,
 ⟨some 9, none, .call 257 [(.t 7), (.t 8)]⟩,
 ⟨some 5, none, .mv (.t 9)⟩])
 (.seq (.seq (.reg [⟨some 10, none, .mv (.t 5)⟩,
 ⟨some 11, none, .bin .lss (.t 10) (.c (.i .i64 0))⟩])
 (.cond (.t 11) (.seq (.reg [⟨some 2, none, .mv (.c (.sl none 0 0 true))⟩,
 ⟨some 3, none, .mv (.c (.b false))⟩])
 (.ret))
 (.skip)))
 (.seq (.reg [⟨some 12, none, .mv (.t 4)⟩,
 ⟨some 13, none, .mv (.t 5)⟩,
 ⟨some 14, none, .ia 2 (.t 12) (.t 13)⟩,
 ⟨some 15, none, .fa 1 (.t 14)⟩,
 ⟨some 16, none, .ld (.t 15)⟩,
 ⟨some 2, none, .mv (.t 16)⟩,
 ⟨some 3, none, .mv (.c (.b true))⟩])
 (.ret)))))
theorem fn241 : fnOf Tryz.prog Tryz.prog.globals.size ext 241 = .go 17 [.t 2, .t 3] v241 := by rw [fnOf, Tryz.func241]; kernel_rfl

/-- clew/fold.Orbit -/
def v242 : VC :=
.seq (.reg [⟨some 2, none, .mv (.c (.sl none 0 0 true))⟩])
 (.seq (.seq (.reg [⟨some 9, none, .mv (.t 0)⟩,
 ⟨some 10, none, .bin .lss (.t 9) (.c (.i .i64 0))⟩,
 ⟨some 11, none, .mv (.t 10)⟩,
 ⟨some 12, some (11, false), .mv (.t 0)⟩,
 ⟨some 13, some (11, false), .bin .gtr (.t 12) (.c (.i .i64 1114367))⟩,
 ⟨some 14, none, .pick (.t 11) (.c (.b true)) (.t 13)⟩])
 (.cond (.t 14) (.seq (.reg [⟨some 2, none, .mv (.c (.sl none 0 0 true))⟩])
 (.ret))
 (.skip)))
 (.seq (.reg [⟨some 15, none, .mv (.t 0)⟩,
 ⟨some 16, none, .call 259 [(.t 15)]⟩,
 ⟨some 3, none, .mv (.t 16)⟩])
 (.seq (.reg [⟨some 17, none, .mv (.t 3)⟩,
 ⟨some 18, none, .bsl 1 1 [(.i .i64 0)] [(0, 1, (.t 17))]⟩,
 ⟨some 4, none, .mv (.t 18)⟩])
 (.seq (.seq (.reg [⟨some 19, none, .call 260 []⟩,
 ⟨some 20, none, .len 1 (.t 19)⟩,
 ⟨some 21, none, .mv (.c (.i .i64 0))⟩])
 (.blk 0 (.loop (.seq (.reg [⟨some 22, none, .bin .lss (.t 21) (.t 20)⟩])
 (.seq (.cond (.t 22) (.skip)
 (.exit 0))
 (.seq (.blk 1 (.seq (.reg [⟨some 23, none, .ia 4 (.t 19) (.t 21)⟩,
 ⟨some 24, none, .ldn 4 (.t 23)⟩,
 ⟨some 6, none, .alloc 351 [(.i .i64 0), (.i .i64 0), (.i .i64 0), (.i .i64 0)]⟩,
 ⟨none, none, .st 4 (.t 6) (.t 24)⟩])
 (.seq (.reg [⟨some 25, none, .ldn 4 (.t 6)⟩,
 ⟨some 26, none, .mv (.t 3)⟩,
 ⟨some 27, none, .fa 3 (.t 6)⟩,
 ⟨some 28, none, .ld (.t 27)⟩,
 ⟨some 29, none, .bin .sub (.t 26) (.t 28)⟩,
 ⟨some 30, none, .call 261 [(.t 25), (.t 29)]⟩])
 (.cond (.t 30) (.reg [⟨some 31, none, .mv (.t 4)⟩,
 ⟨some 32, none, .mv (.t 3)⟩,
 ⟨some 33, none, .fa 3 (.t 6)⟩,
 ⟨some 34, none, .ld (.t 33)⟩,
 ⟨some 35, none, .bin .sub (.t 32) (.t 34)⟩,
 ⟨some 36, none, .bsl 1 1 [(.i .i64 0)] [(0, 1, (.t 35))]⟩,
 ⟨some 37, none, .app ⟨1, (some 3)⟩ 8 (.t 31) (.t 36)⟩,
 ⟨some 4, none, .mv (.t 37)⟩])
 (.skip)))))
 (.reg [⟨some 38, none, .bin .add (.t 21) (.c (.i .i64 1))⟩,
 ⟨some 21, none, .mv (.t 38)⟩])))))))
 (.seq (.seq (.reg [⟨some 39, none, .call 262 []⟩,
 ⟨some 40, none, .len 1 (.t 39)⟩,
 ⟨some 41, none, .mv (.c (.i .i64 0))⟩])
 (.blk 2 (.loop (.seq (.reg [⟨some 42, none, .bin .lss (.t 41) (.t 40)⟩])
 (.seq (.cond (.t 42) (.skip)
 (.exit 2))
 (.seq (.blk 3 (.seq (.reg [⟨some 43, none, .ia 2 (.t 39) (.t 41)⟩,
 ⟨some 44, none, .ldn 2 (.t 43)⟩,
 ⟨some 8, none, .alloc 355 [(.i .i64 0), (.i .i64 0)]⟩,
 ⟨none, none, .st 2 (.t 8) (.t 44)⟩])
 (.seq (.reg [⟨some 45, none, .fa 1 (.t 8)⟩,
 ⟨some 46, none, .ld (.t 45)⟩,
 ⟨some 47, none, .mv (.t 3)⟩,
 ⟨some 48, none, .bin .eql (.t 46) (.t 47)⟩])
 (.cond (.t 48) (.reg [⟨some 49, none, .mv (.t 4)⟩,
 ⟨some 50, none, .fa 0 (.t 8)⟩,
 ⟨some 51, none, .ld (.t 50)⟩,
 ⟨some 52, none, .bsl 1 1 [(.i .i64 0)] [(0, 1, (.t 51))]⟩,
 ⟨some 53, none, .app ⟨1, (some 3)⟩ 8 (.t 49) (.t 52)⟩,
 ⟨some 4, none, .mv (.t 53)⟩])
 (.skip)))))
 (.reg [⟨some 54, none, .bin .add (.t 41) (.c (.i .i64 1))⟩,
 ⟨some 41, none, .mv (.t 54)⟩])))))))
 (.seq (.reg [⟨some 55, none, .mv (.t 4)⟩,
 ⟨some 56, none, .call 263 [(.t 55)]⟩])
 (.seq (.reg [⟨some 57, none, .mv (.t 4)⟩,
 ⟨some 2, none, .mv (.t 57)⟩])
 (.ret))))))))
theorem fn242 : fnOf Tryz.prog Tryz.prog.globals.size ext 242 = .go 58 [.t 2] v242 := by rw [fnOf, Tryz.func242]; kernel_rfl

/-- clew/vint.Zig -/
def v243 : VC :=
.seq (.reg [⟨some 2, none, .mv (.c (.i .u64 0))⟩])
 (.seq (.reg [⟨some 3, none, .mv (.t 0)⟩,
 ⟨some 4, none, .cvi .u64 (.t 3)⟩,
 ⟨some 5, none, .bin .shl (.t 4) (.c (.i .u64 1))⟩,
 ⟨some 6, none, .mv (.t 0)⟩,
 ⟨some 7, none, .bin .shr (.t 6) (.c (.i .u64 63))⟩,
 ⟨some 8, none, .cvi .u64 (.t 7)⟩,
 ⟨some 9, none, .bin .xor (.t 5) (.t 8)⟩,
 ⟨some 2, none, .mv (.t 9)⟩])
 (.ret))
theorem fn243 : fnOf Tryz.prog Tryz.prog.globals.size ext 243 = .go 10 [.t 2] v243 := by rw [fnOf, Tryz.func243]; kernel_rfl

/-- slices.IndexFunc[[]int,int] -/
def v244 : VC :=
.seq (.reg [⟨some 4, none, .mv (.c (.i .i64 0))⟩])
 (.seq (.seq (.reg [⟨some 6, none, .mv (.t 0)⟩,
 ⟨some 7, none, .len 1 (.t 6)⟩,
 ⟨some 8, none, .mv (.c (.i .i64 0))⟩])
 (.blk 0 (.loop (.seq (.reg [⟨some 9, none, .bin .lss (.t 8) (.t 7)⟩])
 (.seq (.cond (.t 9) (.skip)
 (.exit 0))
 (.seq (.blk 1 (.seq (.reg [⟨some 10, none, .mv (.t 8)⟩,
 ⟨some 5, none, .mv (.t 10)⟩])
 (.seq (.reg [⟨some 11, none, .mv (.t 1)⟩,
 ⟨some 12, none, .mv (.t 0)⟩,
 ⟨some 13, none, .mv (.t 5)⟩,
 ⟨some 14, none, .ia 1 (.t 12) (.t 13)⟩,
 ⟨some 15, none, .ld (.t 14)⟩,
 ⟨some 16, none, .cv (.t 11) [(.t 15)]⟩])
 (.cond (.t 16) (.seq (.reg [⟨some 17, none, .mv (.t 5)⟩,
 ⟨some 4, none, .mv (.t 17)⟩])
 (.ret))
 (.skip)))))
 (.reg [⟨some 18, none, .bin .add (.t 8) (.c (.i .i64 1))⟩,
 ⟨some 8, none, .mv (.t 18)⟩])))))))
 (.seq (.reg [⟨some 4, none, .mv (.c (.i .i64 (-1)))⟩])
 (.ret)))
theorem fn244 : fnOf Tryz.prog Tryz.prog.globals.size ext 244 = .go 19 [.t 4] v244 := by rw [fnOf, Tryz.func244]; kernel_rfl

/-- slices.Equal[[]int,int] -/
def v245 : VC :=
.seq (.reg [⟨some 4, none, .mv (.c (.b false))⟩])
 (.seq (.seq (.reg [⟨some 6, none, .mv (.t 0)⟩,
 ⟨some 7, none, .len 1 (.t 6)⟩,
 ⟨some 8, none, .mv (.t 1)⟩,
 ⟨some 9, none, .len 1 (.t 8)⟩,
 ⟨some 10, none, .bin .neq (.t 7) (.t 9)⟩])
 (.cond (.t 10) (.seq (.reg [⟨some 4, none, .mv (.c (.b false))⟩])
 (.ret))
 (.skip)))
 (.seq (.seq (.reg [⟨some 11, none, .mv (.t 0)⟩,
 ⟨some 12, none, .len 1 (.t 11)⟩,
 ⟨some 13, none, .mv (.c (.i .i64 0))⟩])
 (.blk 0 (.loop (.seq (.reg [⟨some 14, none, .bin .lss (.t 13) (.t 12)⟩])
 (.seq (.cond (.t 14) (.skip)
 (.exit 0))
 (.seq (.blk 1 (.seq (.reg [⟨some 15, none, .mv (.t 13)⟩,
 ⟨some 5, none, .mv (.t 15)⟩])
 (.seq (.regd [⟨some 16, none, .mv (.t 0)⟩,
 ⟨some 17, none, .mv (.t 5)⟩,
 ⟨some 18, none, .ia 1 (.t 16) (.t 17)⟩,
 ⟨some 19, none, .ld (.t 18)⟩,
 ⟨some 20, none, .mv (.t 1)⟩,
 ⟨some 21, none, .mv (.t 5)⟩,
 ⟨some 22, none, .ia 1 (.t 20) (.t 21)⟩,
 ⟨some 23, none, .ld (.t 22)⟩,
 ⟨some 24, none, .bin .neq (.t 19) (.t 23)⟩] [])
 (.cond (.t 24) (.seq (.reg [⟨some 4, none, .mv (.c (.b false))⟩])
 (.ret))
 (.skip)))))
 (.reg [⟨some 25, none, .bin .add (.t 13) (.c (.i .i64 1))⟩,
 ⟨some 13, none, .mv (.t 25)⟩])))))))
 (.seq (.reg [⟨some 4, none, .mv (.c (.b true))⟩])
 (.ret))))
theorem fn245 : fnOf Tryz.prog Tryz.prog.globals.size ext 245 = .go 26 [.t 4] v245 := by rw [fnOf, Tryz.func245]; kernel_rfl

/-- clew/vint.width -/
def v246 : VC :=
.seq (.reg [⟨some 2, none, .mv (.c (.i .i64 0))⟩])
 (.seq (.reg [⟨some 3, none, .mv (.c (.i .i64 0))⟩])
 (.seq (.blk 0 (.loop (.seq (.seq (.reg [⟨some 4, none, .mv (.t 0)⟩,
 ⟨some 5, none, .bin .gtr (.t 4) (.c (.i .u64 0))⟩])
 (.cond (.t 5) (.skip)
 (.exit 0)))
 (.seq (.blk 1 (.reg [⟨some 8, none, .mv (.t 3)⟩,
 ⟨some 9, none, .bin .add (.t 8) (.c (.i .i64 1))⟩,
 ⟨some 3, none, .mv (.t 9)⟩]))
 (.reg [⟨some 6, none, .mv (.t 0)⟩,
 ⟨some 7, none, .bin .shr (.t 6) (.c (.i .u64 1))⟩,
 ⟨some 0, none, .mv (.t 7)⟩])))))
 (.seq (.reg [⟨some 10, none, .mv (.t 3)⟩,
 ⟨some 2, none, .mv (.t 10)⟩])
 (.ret))))
theorem fn246 : fnOf Tryz.prog Tryz.prog.globals.size ext 246 = .go 11 [.t 2] v246 := by rw [fnOf, Tryz.func246]; kernel_rfl

/-- clew/vint.Zag -/
def v247 : VC :=
.seq (.reg [⟨some 2, none, .mv (.c (.i .i64 0))⟩])
 (.seq (.reg [⟨some 3, none, .mv (.t 0)⟩,
 ⟨some 4, none, .bin .shr (.t 3) (.c (.i .u64 1))⟩,
 ⟨some 5, none, .cvi .i64 (.t 4)⟩,
 ⟨some 6, none, .mv (.t 0)⟩,
 ⟨some 7, none, .bin .and (.t 6) (.c (.i .u64 1))⟩,
 ⟨some 8, none, .cvi .i64 (.t 7)⟩,
 ⟨some 9, none, .un .neg (.t 8)⟩,
 ⟨some 10, none, .bin .xor (.t 5) (.t 9)⟩,
 ⟨some 2, none, .mv (.t 10)⟩])
 (.ret))
theorem fn247 : fnOf Tryz.prog Tryz.prog.globals.size ext 247 = .go 11 [.t 2] v247 := by rw [fnOf, Tryz.func247]; kernel_rfl

/-- math/bits.TrailingZeros32 -/
def v248 : VC :=
.seq (.reg [⟨some 2, none, .mv (.c (.i .i64 0))⟩])
 (.seq (.seq (.reg [⟨some 3, none, .mv (.t 0)⟩,
 ⟨some 4, none, .bin .eql (.t 3) (.c (.i .u32 0))⟩])
 (.cond (.t 4) (.seq (.reg [⟨some 2, none, .mv (.c (.i .i64 32))⟩])
 (.ret))
 (.skip)))
 (.seq (.reg [⟨some 5, none, .mv (.t 0)⟩,
 ⟨some 6, none, .mv (.t 0)⟩,
 ⟨some 7, none, .un .neg (.t 6)⟩,
 ⟨some 8, none, .bin .and (.t 5) (.t 7)⟩,
 ⟨some 9, none, .bin .mul (.t 8) (.c (.i .u32 125613361))⟩,
 ⟨some 10, none, .bin .shr (.t 9) (.c (.i .u64 27))⟩,
 ⟨some 11, none, .iaA 32 1 (.c (.p (some (3, 0)))) (.t 10)⟩,
 ⟨some 12, none, .ld (.t 11)⟩,
 ⟨some 13, none, .cvi .i64 (.t 12)⟩,
 ⟨some 2, none, .mv (.t 13)⟩])
 (.ret)))
theorem fn248 : fnOf Tryz.prog Tryz.prog.globals.size ext 248 = .go 14 [.t 2] v248 := by rw [fnOf, Tryz.func248]; kernel_rfl

/-- math/bits.TrailingZeros64 -/
def v249 : VC :=
.seq (.reg [⟨some 2, none, .mv (.c (.i .i64 0))⟩])
 (.seq (.seq (.reg [⟨some 3, none, .mv (.t 0)⟩,
 ⟨some 4, none, .bin .eql (.t 3) (.c (.i .u64 0))⟩])
 (.cond (.t 4) (.seq (.reg [⟨some 2, none, .mv (.c (.i .i64 64))⟩])
 (.ret))
 (.skip)))
 (.seq (.reg [⟨some 5, none, .mv (.t 0)⟩,
 ⟨some 6, none, .mv (.t 0)⟩,
 ⟨some 7, none, .un .neg (.t 6)⟩,
 ⟨some 8, none, .bin .and (.t 5) (.t 7)⟩,
 ⟨some 9, none, .bin .mul (.t 8) (.c (.i .u64 285870213051353865))⟩,
 ⟨some 10, none, .bin .shr (.t 9) (.c (.i .u64 58))⟩,
 ⟨some 11, none, .iaA 64 1 (.c (.p (some (4, 0)))) (.t 10)⟩,
 ⟨some 12, none, .ld (.t 11)⟩,
 ⟨some 13, none, .cvi .i64 (.t 12)⟩,
 ⟨some 2, none, .mv (.t 13)⟩])
 (.ret)))
theorem fn249 : fnOf Tryz.prog Tryz.prog.globals.size ext 249 = .go 14 [.t 2] v249 := by rw [fnOf, Tryz.func249]; kernel_rfl

/-- (*clew/parse.parser).skip -/
def v250 : VC :=
.seq (.reg [⟨some 2, none, .mv (.t 0)⟩,
 ⟨some 3, none, .nc (.t 2)⟩,
 ⟨some 4, none, .fa 2 (.t 3)⟩,
 ⟨some 5, none, .fa 3 (.t 4)⟩,
 ⟨some 6, none, .ld (.t 5)⟩])
 (.cond (.t 6) (.regd [⟨some 7, none, .mv (.t 0)⟩,
 ⟨some 8, none, .mv (.t 0)⟩,
 ⟨some 9, none, .nc (.t 8)⟩,
 ⟨some 10, none, .fa 0 (.t 9)⟩,
 ⟨some 11, none, .ld (.t 10)⟩,
 ⟨some 12, none, .mv (.t 0)⟩,
 ⟨some 13, none, .nc (.t 12)⟩,
 ⟨some 14, none, .fa 1 (.t 13)⟩,
 ⟨some 15, none, .ld (.t 14)⟩,
 ⟨some 16, none, .call 264 [(.t 11), (.t 15)]⟩,
 ⟨some 17, none, .nc (.t 7)⟩,
 ⟨some 18, none, .fa 1 (.t 17)⟩,
 ⟨none, none, .st 1 (.t 18) (.t 16)⟩] [])
 (.skip))
theorem fn250 : fnOf Tryz.prog Tryz.prog.globals.size ext 250 = .go 19 [] v250 := by rw [fnOf, Tryz.func250]; kernel_rfl

/-- (*clew/parse.parser).count -/
def v251 : VC :=
.seq (.reg [⟨some 2, none, .alloc 332 [(.i .i64 0), (.i .i64 0), (.i .i64 0), (.i .i64 0)]⟩,
 ⟨some 3, none, .mv (.c (.b false))⟩])
 (.seq (.regd [⟨some 4, none, .alloc 332 [(.i .i64 0), (.i .i64 0), (.i .i64 0), (.i .i64 0)]⟩,
 ⟨some 8, none, .mv (.t 0)⟩,
 ⟨some 9, none, .nc (.t 8)⟩,
 ⟨some 10, none, .fa 0 (.t 9)⟩,
 ⟨some 11, none, .ld (.t 10)⟩,
 ⟨some 12, none, .mv (.t 0)⟩,
 ⟨some 13, none, .nc (.t 12)⟩,
 ⟨some 14, none, .fa 1 (.t 13)⟩,
 ⟨some 15, none, .ld (.t 14)⟩,
 ⟨some 16, none, .call 254 [(.t 11), (.t 15)]⟩,
 ⟨some 7, none, .mv (.t 16)⟩,
 ⟨some 17, none, .ext (.t 7) 0⟩,
 ⟨some 18, none, .ext (.t 7) 1⟩,
 ⟨some 19, none, .ext (.t 7) 2⟩,
 ⟨none, none, .st 4 (.t 4) (.t 17)⟩,
 ⟨some 5, none, .mv (.t 18)⟩,
 ⟨some 6, none, .mv (.t 19)⟩] [])
 (.seq (.seq (.reg [⟨some 20, none, .mv (.t 6)⟩,
 ⟨some 21, none, .bin .neq (.t 20) (.c (.i .i64 0))⟩])
 (.cond (.t 21) (.reg [⟨some 22, none, .mv (.t 0)⟩,
 ⟨some 23, none, .mv (.t 6)⟩,
 ⟨some 24, none, .mv (.t 0)⟩,
 ⟨some 25, none, .nc (.t 24)⟩,
 ⟨some 26, none, .fa 1 (.t 25)⟩,
 ⟨some 27, none, .ld (.t 26)⟩,
 ⟨some 28, none, .call 164 [(.t 22), (.t 23), (.t 27)]⟩])
 (.skip)))
 (.seq (.regd [⟨some 29, none, .ldn 4 (.t 4)⟩,
 ⟨some 30, none, .mv (.t 5)⟩,
 ⟨some 31, none, .mv (.t 30)⟩,
 ⟨some 32, some (31, true), .mv (.t 0)⟩,
 ⟨some 33, some (31, true), .nc (.t 32)⟩,
 ⟨some 34, some (31, true), .fa 8 (.t 33)⟩,
 ⟨some 35, some (31, true), .ld (.t 34)⟩,
 ⟨some 36, some (31, true), .bin .eql (.t 35) (.c (.i .i64 0))⟩,
 ⟨some 37, none, .pick (.t 31) (.t 36) (.c (.b false))⟩,
 ⟨none, none, .st 4 (.t 2) (.t 29)⟩,
 ⟨some 3, none, .mv (.t 37)⟩] [(6, 9)])
 (.ret))))
theorem fn251 : fnOf Tryz.prog Tryz.prog.globals.size ext 251 = .go 38 [.c 2 (some 4), .t 3] v251 := by rw [fnOf, Tryz.func251]; kernel_rfl

/-- (*clew/parse.parser).atom -/
def v252 : VC :=
.seq (.reg [⟨some 4, none, .alloc 251 [(.i .i64 0), (.i .i64 0), (.i .i64 0), (.i .i64 0), (.i .i64 0), (.i .i64 0), (.i .i64 0), (.s ⟨#[]⟩), (.sl none 0 0 true), (.sl none 0 0 true), (.sl none 0 0 true)]⟩,
 ⟨some 5, none, .mv (.c (.b false))⟩])
 (.seq (.reg [⟨some 14, none, .mv (.t 0)⟩,
 ⟨some 15, none, .nc (.t 14)⟩,
 ⟨some 16, none, .fa 1 (.t 15)⟩,
 ⟨some 17, none, .ld (.t 16)⟩,
 ⟨some 6, none, .mv (.t 17)⟩])
 (.seq (.seq (.reg [⟨some 18, none, .mv (.t 0)⟩,
 ⟨some 19, none, .mv (.t 6)⟩,
 ⟨some 20, none, .call 200 [(.t 18), (.t 19)]⟩])
 (.blk 0 (.seq (.reg [⟨some 22, none, .bin .eql (.t 20) (.c (.i .u8 40))⟩,
 ⟨some 21, none, .mv (.t 22)⟩])
 (.cond (.t 21) (.seq (.reg [⟨some 23, none, .mv (.t 0)⟩,
 ⟨some 24, none, .mv (.t 1)⟩,
 ⟨some 25, none, .bin .add (.t 24) (.c (.i .i64 1))⟩,
 ⟨some 26, none, .call 265 [(.t 23), (.t 25)]⟩,
 ⟨some 27, none, .ext (.t 26) 0⟩,
 ⟨some 28, none, .ext (.t 26) 1⟩,
 ⟨none, none, .st 11 (.t 4) (.t 27)⟩,
 ⟨some 5, none, .mv (.t 28)⟩])
 (.ret))
 (.seq (.reg [⟨some 30, none, .bin .eql (.t 20) (.c (.i .u8 91))⟩,
 ⟨some 29, none, .mv (.t 30)⟩])
 (.cond (.t 29) (.seq (.regd [⟨some 32, none, .mv (.t 0)⟩,
 ⟨some 33, none, .nc (.t 32)⟩,
 ⟨some 34, none, .fa 0 (.t 33)⟩,
 ⟨some 35, none, .ld (.t 34)⟩,
 ⟨some 36, none, .mv (.t 6)⟩,
 ⟨some 37, none, .mv (.t 0)⟩,
 ⟨some 38, none, .nc (.t 37)⟩,
 ⟨some 39, none, .fa 2 (.t 38)⟩,
 ⟨some 40, none, .fa 0 (.t 39)⟩,
 ⟨some 41, none, .ld (.t 40)⟩,
 ⟨some 42, none, .call 266 [(.t 35), (.t 36), (.t 41)]⟩,
 ⟨some 31, none, .mv (.t 42)⟩,
 ⟨some 43, none, .ext (.t 31) 0⟩,
 ⟨some 44, none, .ext (.t 31) 1⟩,
 ⟨some 45, none, .ext (.t 31) 2⟩,
 ⟨some 46, none, .ext (.t 31) 3⟩,
 ⟨some 7, none, .mv (.t 43)⟩,
 ⟨some 8, none, .mv (.t 44)⟩,
 ⟨some 9, none, .mv (.t 45)⟩,
 ⟨some 10, none, .mv (.t 46)⟩] [])
 (.seq (.seq (.reg [⟨some 47, none, .mv (.t 9)⟩,
 ⟨some 48, none, .bin .neq (.t 47) (.c (.i .i64 0))⟩])
 (.cond (.t 48) (.seq (.reg [⟨some 49, none, .mv (.t 0)⟩,
 ⟨some 50, none, .mv (.t 9)⟩,
 ⟨some 51, none, .mv (.t 10)⟩,
 ⟨some 52, none, .call 164 [(.t 49), (.t 50), (.t 51)]⟩])
 (.seq (.reg [⟨some 53, none, .build [(.i .i64 0), (.i .i64 0), (.i .i64 0), (.i .i64 0), (.i .i64 0), (.i .i64 0), (.i .i64 0), (.s ⟨#[]⟩), (.sl none 0 0 true), (.sl none 0 0 true), (.sl none 0 0 true)] []⟩,
 ⟨none, none, .st 11 (.t 4) (.t 53)⟩,
 ⟨some 5, none, .mv (.c (.b false))⟩])
 (.ret)))
 (.skip)))
 (.seq (.reg [⟨some 54, none, .mv (.t 0)⟩,
 ⟨some 55, none, .mv (.t 6)⟩,
 ⟨some 56, none, .mv (.t 8)⟩,
 ⟨some 57, none, .mv (.t 7)⟩,
 ⟨some 58, none, .call 267 [(.t 54), (.t 55), (.t 56), (.t 57)]⟩,
 ⟨none, none, .st 11 (.t 4) (.t 58)⟩,
 ⟨some 5, none, .mv (.c (.b true))⟩])
 (.ret))))
 (.seq (.reg [⟨some 60, none, .bin .eql (.t 20) (.c (.i .u8 46))⟩,
 ⟨some 59, none, .mv (.t 60)⟩])
 (.cond (.t 59) (.seq (.reg [⟨some 61, none, .mv (.t 0)⟩,
 ⟨some 62, none, .mv (.t 6)⟩,
 ⟨some 63, none, .mv (.t 6)⟩,
 ⟨some 64, none, .bin .add (.t 63) (.c (.i .i64 1))⟩,
 ⟨some 65, none, .mv (.t 0)⟩,
 ⟨some 66, none, .nc (.t 65)⟩,
 ⟨some 67, none, .fa 2 (.t 66)⟩,
 ⟨some 68, none, .fa 2 (.t 67)⟩,
 ⟨some 69, none, .ld (.t 68)⟩,
 ⟨some 70, none, .call 268 [(.t 69)]⟩,
 ⟨some 71, none, .call 267 [(.t 61), (.t 62), (.t 64), (.t 70)]⟩,
 ⟨none, none, .st 11 (.t 4) (.t 71)⟩,
 ⟨some 5, none, .mv (.c (.b true))⟩])
 (.ret))
 (.seq (.reg [⟨some 73, none, .bin .eql (.t 20) (.c (.i .u8 94))⟩,
 ⟨some 72, none, .mv (.t 73)⟩])
 (.cond (.t 72) (.seq (.reg [⟨some 74, none, .mv (.t 0)⟩,
 ⟨some 75, none, .mv (.t 6)⟩,
 ⟨some 76, none, .mv (.t 6)⟩,
 ⟨some 77, none, .bin .add (.t 76) (.c (.i .i64 1))⟩,
 ⟨some 78, none, .mv (.t 0)⟩,
 ⟨some 79, none, .nc (.t 78)⟩,
 ⟨some 80, none, .fa 2 (.t 79)⟩,
 ⟨some 81, none, .fa 1 (.t 80)⟩,
 ⟨some 82, none, .ld (.t 81)⟩,
 ⟨some 83, none, .call 270 [(.t 82), (.c (.i .i64 4)), (.c (.i .i64 1))]⟩,
 ⟨some 84, none, .call 269 [(.t 74), (.t 75), (.t 77), (.t 83)]⟩,
 ⟨none, none, .st 11 (.t 4) (.t 84)⟩,
 ⟨some 5, none, .mv (.c (.b false))⟩])
 (.ret))
 (.seq (.reg [⟨some 86, none, .bin .eql (.t 20) (.c (.i .u8 36))⟩,
 ⟨some 85, none, .mv (.t 86)⟩])
 (.cond (.t 85) (.seq (.reg [⟨some 87, none, .mv (.t 0)⟩,
 ⟨some 88, none, .mv (.t 6)⟩,
 ⟨some 89, none, .mv (.t 6)⟩,
 ⟨some 90, none, .bin .add (.t 89) (.c (.i .i64 1))⟩,
 ⟨some 91, none, .mv (.t 0)⟩,
 ⟨some 92, none, .nc (.t 91)⟩,
 ⟨some 93, none, .fa 2 (.t 92)⟩,
 ⟨some 94, none, .fa 1 (.t 93)⟩,
 ⟨some 95, none, .ld (.t 94)⟩,
 ⟨some 96, none, .call 270 [(.t 95), (.c (.i .i64 5)), (.c (.i .i64 2))]⟩,
 ⟨some 97, none, .call 269 [(.t 87), (.t 88), (.t 90), (.t 96)]⟩,
 ⟨none, none, .st 11 (.t 4) (.t 97)⟩,
 ⟨some 5, none, .mv (.c (.b false))⟩])
 (.ret))
 (.seq (.reg [⟨some 99, none, .bin .eql (.t 20) (.c (.i .u8 92))⟩,
 ⟨some 98, none, .mv (.t 99)⟩])
 (.cond (.t 98) (.seq (.reg [⟨some 100, none, .mv (.t 0)⟩,
 ⟨some 101, none, .call 271 [(.t 100)]⟩,
 ⟨some 11, none, .alloc 251 [(.i .i64 0), (.i .i64 0), (.i .i64 0), (.i .i64 0), (.i .i64 0), (.i .i64 0), (.i .i64 0), (.s ⟨#[]⟩), (.sl none 0 0 true), (.sl none 0 0 true), (.sl none 0 0 true)]⟩,
 ⟨none, none, .st 11 (.t 11) (.t 101)⟩])
 (.seq (.regd [⟨some 102, none, .ldn 11 (.t 11)⟩,
 ⟨some 103, none, .fa 0 (.t 11)⟩,
 ⟨some 104, none, .fa 0 (.t 103)⟩,
 ⟨some 105, none, .ld (.t 104)⟩,
 ⟨some 106, none, .bin .neq (.t 105) (.c (.i .i64 3))⟩,
 ⟨none, none, .st 11 (.t 4) (.t 102)⟩,
 ⟨some 5, none, .mv (.t 106)⟩] [(3, 5)])
 (.ret)))
 (.skip)))))))))))))))
 (.seq (.reg [⟨some 108, none, .mv (.t 0)⟩,
 ⟨some 109, none, .nc (.t 108)⟩,
 ⟨some 110, none, .fa 0 (.t 109)⟩,
 ⟨some 111, none, .ld (.t 110)⟩,
 ⟨some 112, none, .mv (.t 6)⟩,
 ⟨some 113, none, .call 135 [(.t 111), (.t 112)]⟩,
 ⟨some 107, none, .mv (.t 113)⟩,
 ⟨some 114, none, .ext (.t 107) 0⟩,
 ⟨some 115, none, .ext (.t 107) 1⟩,
 ⟨some 12, none, .mv (.t 114)⟩,
 ⟨some 13, none, .mv (.t 115)⟩])
 (.seq (.reg [⟨some 116, none, .mv (.t 0)⟩,
 ⟨some 117, none, .mv (.t 6)⟩,
 ⟨some 118, none, .mv (.t 6)⟩,
 ⟨some 119, none, .mv (.t 13)⟩,
 ⟨some 120, none, .bin .add (.t 118) (.t 119)⟩,
 ⟨some 121, none, .mv (.t 0)⟩,
 ⟨some 122, none, .mv (.t 12)⟩,
 ⟨some 123, none, .call 273 [(.t 122)]⟩,
 ⟨some 124, none, .call 272 [(.t 121), (.t 123)]⟩,
 ⟨some 125, none, .call 267 [(.t 116), (.t 117), (.t 120), (.t 124)]⟩,
 ⟨none, none, .st 11 (.t 4) (.t 125)⟩,
 ⟨some 5, none, .mv (.c (.b true))⟩])
 (.ret)))))
theorem fn252 : fnOf Tryz.prog Tryz.prog.globals.size ext 252 = .go 126 [.c 4 (some 11), .t 5] v252 := by rw [fnOf, Tryz.func252]; kernel_rfl

/-- clew/parse.repeated -/
def v253 : VC :=
.seq (.reg [⟨some 3, none, .box 11 (.t 0)⟩,
 ⟨some 5, none, .box 4 (.t 2)⟩,
 ⟨some 6, none, .alloc 251 [(.i .i64 0), (.i .i64 0), (.i .i64 0), (.i .i64 0), (.i .i64 0), (.i .i64 0), (.i .i64 0), (.s ⟨#[]⟩), (.sl none 0 0 true), (.sl none 0 0 true), (.sl none 0 0 true)]⟩])
 (.seq (.reg [⟨some 9, none, .fa 2 (.t 5)⟩,
 ⟨some 10, none, .ld (.t 9)⟩,
 ⟨some 11, none, .bin .eql (.t 10) (.c (.i .i64 1))⟩,
 ⟨some 12, none, .call 270 [(.t 11), (.c (.i .i64 1)), (.c (.i .i64 0))]⟩,
 ⟨some 7, none, .mv (.t 12)⟩])
 (.seq (.reg [⟨some 13, none, .mv (.t 1)⟩,
 ⟨some 14, none, .fa 3 (.t 5)⟩,
 ⟨some 15, none, .ld (.t 14)⟩,
 ⟨some 16, none, .fa 0 (.t 5)⟩,
 ⟨some 17, none, .ld (.t 16)⟩,
 ⟨some 18, none, .fa 1 (.t 5)⟩,
 ⟨some 19, none, .ld (.t 18)⟩,
 ⟨some 20, none, .mv (.t 7)⟩,
 ⟨some 21, none, .build [(.i .i64 0), (.i .i64 0), (.i .i64 0), (.i .i64 0), (.i .i64 0), (.i .i64 0), (.i .i64 0), (.s ⟨#[]⟩), (.sl none 0 0 true), (.sl none 0 0 true)] [(0, 1, (.c (.i .i64 8))), (1, 1, (.t 13)), (2, 1, (.t 15)), (4, 1, (.t 17)), (5, 1, (.t 19)), (6, 1, (.t 20))]⟩,
 ⟨some 22, none, .ldn 11 (.t 3)⟩,
 ⟨some 23, none, .bsl 11 1 [(.i .i64 0), (.i .i64 0), (.i .i64 0), (.i .i64 0), (.i .i64 0), (.i .i64 0), (.i .i64 0), (.s ⟨#[]⟩), (.sl none 0 0 true), (.sl none 0 0 true), (.sl none 0 0 true)] [(0, 11, (.t 22))]⟩,
 ⟨some 24, none, .build [(.i .i64 0), (.i .i64 0), (.i .i64 0), (.i .i64 0), (.i .i64 0), (.i .i64 0), (.i .i64 0), (.s ⟨#[]⟩), (.sl none 0 0 true), (.sl none 0 0 true), (.sl none 0 0 true)] [(0, 10, (.t 21)), (10, 1, (.t 23))]⟩,
 ⟨some 8, none, .alloc 251 [(.i .i64 0), (.i .i64 0), (.i .i64 0), (.i .i64 0), (.i .i64 0), (.i .i64 0), (.i .i64 0), (.s ⟨#[]⟩), (.sl none 0 0 true), (.sl none 0 0 true), (.sl none 0 0 true)]⟩,
 ⟨none, none, .st 11 (.t 8) (.t 24)⟩])
 (.seq (.seq (.reg [⟨some 25, none, .fa 2 (.t 5)⟩,
 ⟨some 26, none, .ld (.t 25)⟩,
 ⟨some 27, none, .bin .leq (.t 26) (.c (.i .i64 1))⟩])
 (.cond (.t 27) (.seq (.reg [⟨some 28, none, .ldn 11 (.t 8)⟩,
 ⟨none, none, .st 11 (.t 6) (.t 28)⟩])
 (.ret))
 (.skip)))
 (.seq (.reg [⟨some 29, none, .mv (.t 1)⟩,
 ⟨some 30, none, .fa 3 (.t 5)⟩,
 ⟨some 31, none, .ld (.t 30)⟩,
 ⟨some 32, none, .build [(.i .i64 0), (.i .i64 0), (.i .i64 0), (.i .i64 0), (.i .i64 0), (.i .i64 0), (.i .i64 0), (.s ⟨#[]⟩), (.sl none 0 0 true), (.sl none 0 0 true)] [(0, 1, (.c (.i .i64 9))), (1, 1, (.t 29)), (2, 1, (.t 31))]⟩,
 ⟨some 33, none, .ldn 11 (.t 8)⟩,
 ⟨some 34, none, .bsl 11 1 [(.i .i64 0), (.i .i64 0), (.i .i64 0), (.i .i64 0), (.i .i64 0), (.i .i64 0), (.i .i64 0), (.s ⟨#[]⟩), (.sl none 0 0 true), (.sl none 0 0 true), (.sl none 0 0 true)] [(0, 11, (.t 33))]⟩,
 ⟨some 35, none, .build [(.i .i64 0), (.i .i64 0), (.i .i64 0), (.i .i64 0), (.i .i64 0), (.i .i64 0), (.i .i64 0), (.s ⟨#[]⟩), (.sl none 0 0 true), (.sl none 0 0 true), (.sl none 0 0 true)] [(0, 10, (.t 32)), (10, 1, (.t 34))]⟩,
 ⟨none, none, .st 11 (.t 6) (.t 35)⟩])
 (.ret)))))
theorem fn253 : fnOf Tryz.prog Tryz.prog.globals.size ext 253 = .go 36 [.c 6 (some 11)] v253 := by rw [fnOf, Tryz.func253]; kernel_rfl

/-- clew/scan.Count -/
def v254 : VC :=
.seq (.reg [⟨some 4, none, .alloc 332 [(.i .i64 0), (.i .i64 0), (.i .i64 0), (.i .i64 0)]⟩,
 ⟨some 5, none, .mv (.c (.b false))⟩,
 ⟨some 6, none, .mv (.c (.i .i64 0))⟩])
 (.seq (.reg [⟨some 10, none, .mv (.t 0)⟩,
 ⟨some 11, none, .mv (.t 1)⟩,
 ⟨some 12, none, .call 274 [(.t 10), (.t 11)]⟩,
 ⟨some 9, none, .mv (.t 12)⟩,
 ⟨some 13, none, .ext (.t 9) 0⟩,
 ⟨some 14, none, .ext (.t 9) 1⟩,
 ⟨some 7, none, .alloc 332 [(.i .i64 0), (.i .i64 0), (.i .i64 0), (.i .i64 0)]⟩,
 ⟨none, none, .st 4 (.t 7) (.t 13)⟩,
 ⟨some 8, none, .mv (.t 14)⟩])
 (.seq (.seq (.reg [⟨some 15, none, .mv (.t 8)⟩,
 ⟨some 16, none, .un .not (.t 15)⟩])
 (.cond (.t 16) (.seq (.reg [⟨some 17, none, .build [(.i .i64 0), (.i .i64 0), (.i .i64 0), (.i .i64 0)] []⟩,
 ⟨none, none, .st 4 (.t 4) (.t 17)⟩,
 ⟨some 5, none, .mv (.c (.b false))⟩,
 ⟨some 6, none, .mv (.c (.i .i64 0))⟩])
 (.ret))
 (.skip)))
 (.seq (.seq (.reg [⟨some 18, none, .fa 0 (.t 7)⟩,
 ⟨some 19, none, .ld (.t 18)⟩,
 ⟨some 20, none, .bin .gtr (.t 19) (.c (.i .i64 1000))⟩,
 ⟨some 21, none, .mv (.t 20)⟩,
 ⟨some 22, some (21, false), .fa 1 (.t 7)⟩,
 ⟨some 23, some (21, false), .ld (.t 22)⟩,
 ⟨some 24, some (21, false), .bin .gtr (.t 23) (.c (.i .i64 1000))⟩,
 ⟨some 25, none, .pick (.t 21) (.c (.b true)) (.t 24)⟩,
 ⟨some 26, none, .mv (.t 25)⟩,
 ⟨some 27, some (26, false), .fa 1 (.t 7)⟩,
 ⟨some 28, some (26, false), .ld (.t 27)⟩,
 ⟨some 29, some (26, false), .bin .eql (.t 28) (.c (.i .i64 0))⟩,
 ⟨some 30, none, .pick (.t 26) (.c (.b true)) (.t 29)⟩,
 ⟨some 31, none, .mv (.t 30)⟩,
 ⟨some 32, some (31, false), .fa 1 (.t 7)⟩,
 ⟨some 33, some (31, false), .ld (.t 32)⟩,
 ⟨some 34, some (31, false), .bin .neq (.t 33) (.c (.i .i64 (-1)))⟩,
 ⟨some 35, some (31, false), .mv (.t 34)⟩,
 ⟨some 36, some (35, true), .fa 1 (.t 7)⟩,
 ⟨some 37, some (35, true), .ld (.t 36)⟩,
 ⟨some 38, some (35, true), .fa 0 (.t 7)⟩,
 ⟨some 39, some (35, true), .ld (.t 38)⟩,
 ⟨some 40, some (35, true), .bin .lss (.t 37) (.t 39)⟩,
 ⟨some 41, some (31, false), .pick (.t 35) (.t 40) (.c (.b false))⟩,
 ⟨some 42, none, .pick (.t 31) (.c (.b true)) (.t 41)⟩])
 (.cond (.t 42) (.seq (.reg [⟨some 43, none, .build [(.i .i64 0), (.i .i64 0), (.i .i64 0), (.i .i64 0)] []⟩,
 ⟨none, none, .st 4 (.t 4) (.t 43)⟩,
 ⟨some 5, none, .mv (.c (.b false))⟩,
 ⟨some 6, none, .mv (.c (.i .i64 34))⟩])
 (.ret))
 (.skip)))
 (.seq (.seq (.reg [⟨some 44, none, .mv (.t 0)⟩,
 ⟨some 45, none, .fa 3 (.t 7)⟩,
 ⟨some 46, none, .ld (.t 45)⟩,
 ⟨some 47, none, .call 275 [(.t 44), (.t 46)]⟩])
 (.blk 0 (.seq (.reg [⟨some 49, none, .bin .eql (.t 47) (.c (.i .u8 63))⟩,
 ⟨some 48, none, .mv (.t 49)⟩])
 (.cond (.t 48) (.reg [⟨some 50, none, .fa 3 (.t 7)⟩,
 ⟨some 51, none, .ld (.t 50)⟩,
 ⟨some 52, none, .bin .add (.t 51) (.c (.i .i64 1))⟩,
 ⟨some 53, none, .fa 2 (.t 7)⟩,
 ⟨none, none, .st 1 (.t 53) (.c (.i .i64 1))⟩,
 ⟨some 54, none, .fa 3 (.t 7)⟩,
 ⟨none, none, .st 1 (.t 54) (.t 52)⟩])
 (.seq (.reg [⟨some 56, none, .bin .eql (.t 47) (.c (.i .u8 43))⟩,
 ⟨some 55, none, .mv (.t 56)⟩])
 (.cond (.t 55) (.reg [⟨some 57, none, .fa 3 (.t 7)⟩,
 ⟨some 58, none, .ld (.t 57)⟩,
 ⟨some 59, none, .bin .add (.t 58) (.c (.i .i64 1))⟩,
 ⟨some 60, none, .fa 2 (.t 7)⟩,
 ⟨none, none, .st 1 (.t 60) (.c (.i .i64 2))⟩,
 ⟨some 61, none, .fa 3 (.t 7)⟩,
 ⟨none, none, .st 1 (.t 61) (.t 59)⟩])
 (.skip)))))))
 (.seq (.reg [⟨some 62, none, .ldn 4 (.t 7)⟩,
 ⟨none, none, .st 4 (.t 4) (.t 62)⟩,
 ⟨some 5, none, .mv (.c (.b true))⟩,
 ⟨some 6, none, .mv (.c (.i .i64 0))⟩])
 (.ret))))))
theorem fn254 : fnOf Tryz.prog Tryz.prog.globals.size ext 254 = .go 63 [.c 4 (some 4), .t 5, .t 6] v254 := by rw [fnOf, Tryz.func254]; kernel_rfl

/-- slices.order2CmpFunc[clew/rset.Range] -/
def v255 : VC :=
.seq (.reg [⟨some 10, none, .mv (.c (.i .i64 0))⟩,
 ⟨some 11, none, .mv (.c (.i .i64 0))⟩])
 (.seq (.seq (.regd [⟨some 12, none, .mv (.t 4)⟩,
 ⟨some 13, none, .mv (.t 0)⟩,
 ⟨some 14, none, .mv (.t 2)⟩,
 ⟨some 15, none, .ia 2 (.t 13) (.t 14)⟩,
 ⟨some 16, none, .ldn 2 (.t 15)⟩,
 ⟨some 17, none, .mv (.t 0)⟩,
 ⟨some 18, none, .mv (.t 1)⟩,
 ⟨some 19, none, .ia 2 (.t 17) (.t 18)⟩,
 ⟨some 20, none, .ldn 2 (.t 19)⟩,
 ⟨some 21, none, .cv (.t 12) [(.t 16), (.t 20)]⟩,
 ⟨some 22, none, .bin .lss (.t 21) (.c (.i .i64 0))⟩] [])
 (.cond (.t 22) (.seq (.reg [⟨some 23, none, .mv (.t 3)⟩,
 ⟨some 24, none, .nc (.t 23)⟩,
 ⟨some 25, none, .ld (.t 24)⟩,
 ⟨some 26, none, .bin .add (.t 25) (.c (.i .i64 1))⟩,
 ⟨some 27, none, .nc (.t 23)⟩,
 ⟨none, none, .st 1 (.t 27) (.t 26)⟩])
 (.seq (.reg [⟨some 28, none, .mv (.t 2)⟩,
 ⟨some 29, none, .mv (.t 1)⟩,
 ⟨some 10, none, .mv (.t 28)⟩,
 ⟨some 11, none, .mv (.t 29)⟩])
 (.ret)))
 (.skip)))
 (.seq (.reg [⟨some 30, none, .mv (.t 1)⟩,
 ⟨some 31, none, .mv (.t 2)⟩,
 ⟨some 10, none, .mv (.t 30)⟩,
 ⟨some 11, none, .mv (.t 31)⟩])
 (.ret)))
theorem fn255 : fnOf Tryz.prog Tryz.prog.globals.size ext 255 = .go 32 [.t 10, .t 11] v255 := by rw [fnOf, Tryz.func255]; kernel_rfl

/-- clew/class.all -/
def v256 : VC :=
.seq (.reg [⟨some 0, none, .mv (.c (.sl none 0 0 true))⟩])
 (.seq (.reg [⟨some 4, none, .build [(.i .i64 0), (.i .i64 0)] [(0, 1, (.c (.i .i64 97))), (1, 1, (.c (.i .i64 122)))]⟩,
 ⟨some 5, none, .build [(.i .i64 0), (.i .i64 0)] [(0, 1, (.c (.i .i64 65))), (1, 1, (.c (.i .i64 90)))]⟩,
 ⟨some 6, none, .build [(.i .i64 0), (.i .i64 0)] [(0, 1, (.c (.i .i64 48))), (1, 1, (.c (.i .i64 57)))]⟩,
 ⟨some 1, none, .alloc 57 [(.i .i64 0), (.i .i64 0)]⟩,
 ⟨some 2, none, .alloc 57 [(.i .i64 0), (.i .i64 0)]⟩,
 ⟨some 3, none, .alloc 57 [(.i .i64 0), (.i .i64 0)]⟩,
 ⟨none, none, .st 2 (.t 1) (.t 4)⟩,
 ⟨none, none, .st 2 (.t 2) (.t 5)⟩,
 ⟨none, none, .st 2 (.t 3) (.t 6)⟩])
 (.seq (.reg [⟨some 7, none, .ldn 2 (.t 3)⟩,
 ⟨some 8, none, .ldn 2 (.t 2)⟩,
 ⟨some 9, none, .ldn 2 (.t 1)⟩,
 ⟨some 10, none, .bsl 2 3 [(.i .i64 0), (.i .i64 0), (.i .i64 0), (.i .i64 0), (.i .i64 0), (.i .i64 0)] [(0, 2, (.t 7)), (2, 2, (.t 8)), (4, 2, (.t 9))]⟩,
 ⟨some 11, none, .build [(.s ⟨#[]⟩), (.sl none 0 0 true)] [(0, 1, (.c (.s ⟨#[97, 108, 110, 117, 109]⟩))), (1, 1, (.t 10))]⟩,
 ⟨some 12, none, .ldn 2 (.t 2)⟩,
 ⟨some 13, none, .ldn 2 (.t 1)⟩,
 ⟨some 14, none, .bsl 2 2 [(.i .i64 0), (.i .i64 0), (.i .i64 0), (.i .i64 0)] [(0, 2, (.t 12)), (2, 2, (.t 13))]⟩,
 ⟨some 15, none, .build [(.s ⟨#[]⟩), (.sl none 0 0 true)] [(0, 1, (.c (.s ⟨#[97, 108, 112, 104, 97]⟩))), (1, 1, (.t 14))]⟩,
 ⟨some 16, none, .build [(.i .i64 0), (.i .i64 0)] [(0, 1, (.c (.i .i64 0))), (1, 1, (.c (.i .i64 127)))]⟩,
 ⟨some 17, none, .bsl 2 1 [(.i .i64 0), (.i .i64 0)] [(0, 2, (.t 16))]⟩,
 ⟨some 18, none, .build [(.s ⟨#[]⟩), (.sl none 0 0 true)] [(0, 1, (.c (.s ⟨#[97, 115, 99, 105, 105]⟩))), (1, 1, (.t 17))]⟩,
 ⟨some 19, none, .build [(.i .i64 0), (.i .i64 0)] [(0, 1, (.c (.i .i64 9))), (1, 1, (.c (.i .i64 9)))]⟩,
 ⟨some 20, none, .build [(.i .i64 0), (.i .i64 0)] [(0, 1, (.c (.i .i64 32))), (1, 1, (.c (.i .i64 32)))]⟩,
 ⟨some 21, none, .bsl 2 2 [(.i .i64 0), (.i .i64 0), (.i .i64 0), (.i .i64 0)] [(0, 2, (.t 19)), (2, 2, (.t 20))]⟩,
 ⟨some 22, none, .build [(.s ⟨#[]⟩), (.sl none 0 0 true)] [(0, 1, (.c (.s ⟨#[98, 108, 97, 110, 107]⟩))), (1, 1, (.t 21))]⟩,
 ⟨some 23, none, .build [(.i .i64 0), (.i .i64 0)] [(0, 1, (.c (.i .i64 0))), (1, 1, (.c (.i .i64 31)))]⟩,
 ⟨some 24, none, .build [(.i .i64 0), (.i .i64 0)] [(0, 1, (.c (.i .i64 127))), (1, 1, (.c (.i .i64 127)))]⟩,
 ⟨some 25, none, .bsl 2 2 [(.i .i64 0), (.i .i64 0), (.i .i64 0), (.i .i64 0)] [(0, 2, (.t 23)), (2, 2, (.t 24))]⟩,
 ⟨some 26, none, .build [(.s ⟨#[]⟩), (.sl none 0 0 true)] [(0, 1, (.c (.s ⟨#[99, 110, 116, 114, 108]⟩))), (1, 1, (.t 25))]⟩,
 ⟨some 27, none, .ldn 2 (.t 3)⟩,
 ⟨some 28, none, .bsl 2 1 [(.i .i64 0), (.i .i64 0)] [(0, 2, (.t 27))]⟩,
 ⟨some 29, none, .build [(.s ⟨#[]⟩), (.sl none 0 0 true)] [(0, 1, (.c (.s ⟨#[100, 105, 103, 105, 116]⟩))), (1, 1, (.t 28))]⟩,
 ⟨some 30, none, .build [(.i .i64 0), (.i .i64 0)] [(0, 1, (.c (.i .i64 33))), (1, 1, (.c (.i .i64 126)))]⟩,
 ⟨some 31, none, .bsl 2 1 [(.i .i64 0), (.i .i64 0)] [(0, 2, (.t 30))]⟩,
 ⟨some 32, none, .build [(.s ⟨#[]⟩), (.sl none 0 0 true)] [(0, 1, (.c (.s ⟨#[103, 114, 97, 112, 104]⟩))), (1, 1, (.t 31))]⟩,
 ⟨some 33, none, .ldn 2 (.t 1)⟩,
 ⟨some 34, none, .bsl 2 1 [(.i .i64 0), (.i .i64 0)] [(0, 2, (.t 33))]⟩,
 ⟨some 35, none, .build [(.s ⟨#[]⟩), (.sl none 0 0 true)] [(0, 1, (.c (.s ⟨#[108, 111, 119, 101, 114]⟩))), (1, 1, (.t 34))]⟩,
 ⟨some 36, none, .build [(.i .i64 0), (.i .i64 0)] [(0, 1, (.c (.i .i64 32))), (1, 1, (.c (.i .i64 126)))]⟩,
 ⟨some 37, none, .bsl 2 1 [(.i .i64 0), (.i .i64 0)] [(0, 2, (.t 36))]⟩,
 ⟨some 38, none, .build [(.s ⟨#[]⟩), (.sl none 0 0 true)] [(0, 1, (.c (.s ⟨#[112, 114, 105, 110, 116]⟩))), (1, 1, (.t 37))]⟩,
 ⟨some 39, none, .build [(.i .i64 0), (.i .i64 0)] [(0, 1, (.c (.i .i64 33))), (1, 1, (.c (.i .i64 47)))]⟩,
 ⟨some 40, none, .build [(.i .i64 0), (.i .i64 0)] [(0, 1, (.c (.i .i64 58))), (1, 1, (.c (.i .i64 64)))]⟩,
 ⟨some 41, none, .build [(.i .i64 0), (.i .i64 0)] [(0, 1, (.c (.i .i64 91))), (1, 1, (.c (.i .i64 96)))]⟩,
 ⟨some 42, none, .build [(.i .i64 0), (.i .i64 0)] [(0, 1, (.c (.i .i64 123))), (1, 1, (.c (.i .i64 126)))]⟩,
 ⟨some 43, none, .bsl 2 4 [(.i .i64 0), (.i .i64 0), (.i .i64 0), (.i .i64 0), (.i .i64 0), (.i .i64 0), (.i .i64 0), (.i .i64 0)] [(0, 2, (.t 39)), (2, 2, (.t 40)), (4, 2, (.t 41)), (6, 2, (.t 42))]⟩,
 ⟨some 44, none, .build [(.s ⟨#[]⟩), (.sl none 0 0 true)] [(0, 1, (.c (.s ⟨#[112, 117, 110, 99, 116]⟩))), (1, 1, (.t 43))]⟩,
 ⟨some 45, none, .build [(.i .i64 0), (.i .i64 0)] [(0, 1, (.c (.i .i64 9))), (1, 1, (.c (.i .i64 13)))]⟩,
 ⟨some 46, none, .build [(.i .i64 0), (.i .i64 0)] [(0, 1, (.c (.i .i64 32))), (1, 1, (.c (.i .i64 32)))]⟩,
 ⟨some 47, none, .bsl 2 2 [(.i .i64 0), (.i .i64 0), (.i .i64 0), (.i .i64 0)] [(0, 2, (.t 45)), (2, 2, (.t 46))]⟩,
 ⟨some 48, none, .build [(.s ⟨#[]⟩), (.sl none 0 0 true)] [(0, 1, (.c (.s ⟨#[115, 112, 97, 99, 101]⟩))), (1, 1, (.t 47))]⟩,
 ⟨some 49, none, .ldn 2 (.t 2)⟩,
 ⟨some 50, none, .bsl 2 1 [(.i .i64 0), (.i .i64 0)] [(0, 2, (.t 49))]⟩,
 ⟨some 51, none, .build [(.s ⟨#[]⟩), (.sl none 0 0 true)] [(0, 1, (.c (.s ⟨#[117, 112, 112, 101, 114]⟩))), (1, 1, (.t 50))]⟩,
 ⟨some 52, none, .ldn 2 (.t 3)⟩,
 ⟨some 53, none, .ldn 2 (.t 2)⟩,
 ⟨some 54, none, .build [(.i .i64 0), (.i .i64 0)] [(0, 1, (.c (.i .i64 95))), (1, 1, (.c (.i .i64 95)))]⟩,
 ⟨some 55, none, .ldn 2 (.t 1)⟩,
 ⟨some 56, none, .bsl 2 4 [(.i .i64 0), (.i .i64 0), (.i .i64 0), (.i .i64 0), (.i .i64 0), (.i .i64 0), (.i .i64 0), (.i .i64 0)] [(0, 2, (.t 52)), (2, 2, (.t 53)), (4, 2, (.t 54)), (6, 2, (.t 55))]⟩,
 ⟨some 57, none, .build [(.s ⟨#[]⟩), (.sl none 0 0 true)] [(0, 1, (.c (.s ⟨#[119, 111, 114, 100]⟩))), (1, 1, (.t 56))]⟩,
 ⟨some 58, none, .ldn 2 (.t 3)⟩,
 ⟨some 59, none, .build [(.i .i64 0), (.i .i64 0)] [(0, 1, (.c (.i .i64 65))), (1, 1, (.c (.i .i64 70)))]⟩,
 ⟨some 60, none, .build [(.i .i64 0), (.i .i64 0)] [(0, 1, (.c (.i .i64 97))), (1, 1, (.c (.i .i64 102)))]⟩,
 ⟨some 61, none, .bsl 2 3 [(.i .i64 0), (.i .i64 0), (.i .i64 0), (.i .i64 0), (.i .i64 0), (.i .i64 0)] [(0, 2, (.t 58)), (2, 2, (.t 59)), (4, 2, (.t 60))]⟩,
 ⟨some 62, none, .build [(.s ⟨#[]⟩), (.sl none 0 0 true)] [(0, 1, (.c (.s ⟨#[120, 100, 105, 103, 105, 116]⟩))), (1, 1, (.t 61))]⟩,
 ⟨some 63, none, .bsl 2 14 [(.s ⟨#[]⟩), (.sl none 0 0 true), (.s ⟨#[]⟩), (.sl none 0 0 true), (.s ⟨#[]⟩), (.sl none 0 0 true), (.s ⟨#[]⟩), (.sl none 0 0 true), (.s ⟨#[]⟩), (.sl none 0 0 true), (.s ⟨#[]⟩), (.sl none 0 0 true), (.s ⟨#[]⟩), (.sl none 0 0 true), (.s ⟨#[]⟩), (.sl none 0 0 true), (.s ⟨#[]⟩), (.sl none 0 0 true), (.s ⟨#[]⟩), (.sl none 0 0 true), (.s ⟨#[]⟩), (.sl none 0 0 true), (.s ⟨#[]⟩), (.sl none 0 0 true), (.s ⟨#[]⟩), (.sl none 0 0 true), (.s ⟨#[]⟩), (.sl none 0 0 true)] [(0, 2, (.t 11)), (2, 2, (.t 15)), (4, 2, (.t 18)), (6, 2, (.t 22)), (8, 2, (.t 26)), (10, 2, (.t 29)), (12, 2, (.t 32)), (14, 2, (.t 35)), (16, 2, (.t 38)), (18, 2, (.t 44)), (20, 2, (.t 48)), (22, 2, (.t 51)), (24, 2, (.t 57)), (26, 2, (.t 62))]⟩,
 ⟨some 0, none, .mv (.t 63)⟩])
 (.ret)))
theorem fn256 : fnOf Tryz.prog Tryz.prog.globals.size ext 256 = .go 64 [.t 0] v256 := by rw [fnOf, Tryz.func256]; kernel_rfl

/-- slices.IndexFunc[[]clew/class.named,clew/class.named] -/
def v257 : VC :=
.seq (.reg [⟨some 4, none, .mv (.c (.i .i64 0))⟩])
 (.seq (.seq (.reg [⟨some 6, none, .mv (.t 0)⟩,
 ⟨some 7, none, .len 1 (.t 6)⟩,
 ⟨some 8, none, .mv (.c (.i .i64 0))⟩])
 (.blk 0 (.loop (.seq (.reg [⟨some 9, none, .bin .lss (.t 8) (.t 7)⟩])
 (.seq (.cond (.t 9) (.skip)
 (.exit 0))
 (.seq (.blk 1 (.seq (.reg [⟨some 10, none, .mv (.t 8)⟩,
 ⟨some 5, none, .mv (.t 10)⟩])
 (.seq (.reg [⟨some 11, none, .mv (.t 1)⟩,
 ⟨some 12, none, .mv (.t 0)⟩,
 ⟨some 13, none, .mv (.t 5)⟩,
 ⟨some 14, none, .ia 2 (.t 12) (.t 13)⟩,
 ⟨some 15, none, .ldn 2 (.t 14)⟩,
 ⟨some 16, none, .cv (.t 11) [(.t 15)]⟩])
 (.cond (.t 16) (.seq (.reg [⟨some 17, none, .mv (.t 5)⟩,
 ⟨some 4, none, .mv (.t 17)⟩])
 (.ret))
 (.skip)))))
 (.reg [⟨some 18, none, .bin .add (.t 8) (.c (.i .i64 1))⟩,
 ⟨some 8, none, .mv (.t 18)⟩])))))))
 (.seq (.reg [⟨some 4, none, .mv (.c (.i .i64 (-1)))⟩])
 (.ret)))
theorem fn257 : fnOf Tryz.prog Tryz.prog.globals.size ext 257 = .go 19 [.t 4] v257 := by rw [fnOf, Tryz.func257]; kernel_rfl

/-- clew/class.Named$1 -/
def v258 : VC :=
.seq (.reg [⟨some 2, none, .box 2 (.t 0)⟩,
 ⟨some 3, none, .mv (.c (.b false))⟩])
 (.seq (.reg [⟨some 4, none, .fa 0 (.t 2)⟩,
 ⟨some 5, none, .ld (.t 4)⟩,
 ⟨some 6, none, .ld (.t 1)⟩,
 ⟨some 7, none, .bin .eql (.t 5) (.t 6)⟩,
 ⟨some 3, none, .mv (.t 7)⟩])
 (.ret))
theorem fn258 : fnOf Tryz.prog Tryz.prog.globals.size ext 258 = .go 8 [.t 3] v258 := by rw [fnOf, Tryz.func258]; kernel_rfl

/-- clew/fold.base -/
def v259 : VC :=
.seq (.reg [⟨some 2, none, .mv (.c (.i .i64 0))⟩])
 (.seq (.seq (.reg [⟨some 7, none, .call 262 []⟩,
 ⟨some 8, none, .len 1 (.t 7)⟩,
 ⟨some 9, none, .mv (.c (.i .i64 0))⟩])
 (.blk 0 (.loop (.seq (.reg [⟨some 10, none, .bin .lss (.t 9) (.t 8)⟩])
 (.seq (.cond (.t 10) (.skip)
 (.exit 0))
 (.seq (.blk 1 (.seq (.reg [⟨some 11, none, .ia 2 (.t 7) (.t 9)⟩,
 ⟨some 12, none, .ldn 2 (.t 11)⟩,
 ⟨some 4, none, .alloc 355 [(.i .i64 0), (.i .i64 0)]⟩,
 ⟨none, none, .st 2 (.t 4) (.t 12)⟩])
 (.seq (.reg [⟨some 13, none, .fa 0 (.t 4)⟩,
 ⟨some 14, none, .ld (.t 13)⟩,
 ⟨some 15, none, .mv (.t 0)⟩,
 ⟨some 16, none, .bin .eql (.t 14) (.t 15)⟩])
 (.cond (.t 16) (.seq (.reg [⟨some 17, none, .fa 1 (.t 4)⟩,
 ⟨some 18, none, .ld (.t 17)⟩,
 ⟨some 2, none, .mv (.t 18)⟩])
 (.ret))
 (.skip)))))
 (.reg [⟨some 19, none, .bin .add (.t 9) (.c (.i .i64 1))⟩,
 ⟨some 9, none, .mv (.t 19)⟩])))))))
 (.seq (.seq (.reg [⟨some 20, none, .call 260 []⟩,
 ⟨some 21, none, .len 1 (.t 20)⟩,
 ⟨some 22, none, .mv (.c (.i .i64 0))⟩])
 (.blk 2 (.loop (.seq (.reg [⟨some 23, none, .bin .lss (.t 22) (.t 21)⟩])
 (.seq (.cond (.t 23) (.skip)
 (.exit 2))
 (.seq (.blk 3 (.seq (.reg [⟨some 24, none, .ia 4 (.t 20) (.t 22)⟩,
 ⟨some 25, none, .ldn 4 (.t 24)⟩,
 ⟨some 6, none, .alloc 351 [(.i .i64 0), (.i .i64 0), (.i .i64 0), (.i .i64 0)]⟩,
 ⟨none, none, .st 4 (.t 6) (.t 25)⟩])
 (.seq (.reg [⟨some 26, none, .ldn 4 (.t 6)⟩,
 ⟨some 27, none, .mv (.t 0)⟩,
 ⟨some 28, none, .call 261 [(.t 26), (.t 27)]⟩])
 (.cond (.t 28) (.seq (.reg [⟨some 29, none, .mv (.t 0)⟩,
 ⟨some 30, none, .fa 3 (.t 6)⟩,
 ⟨some 31, none, .ld (.t 30)⟩,
 ⟨some 32, none, .bin .add (.t 29) (.t 31)⟩,
 ⟨some 2, none, .mv (.t 32)⟩])
 (.ret))
 (.skip)))))
 (.reg [⟨some 33, none, .bin .add (.t 22) (.c (.i .i64 1))⟩,
 ⟨some 22, none, .mv (.t 33)⟩])))))))
 (.seq (.reg [⟨some 34, none, .mv (.t 0)⟩,
 ⟨some 2, none, .mv (.t 34)⟩])
 (.ret))))
theorem fn259 : fnOf Tryz.prog Tryz.prog.globals.size ext 259 = .go 35 [.t 2] v259 := by rw [fnOf, Tryz.func259]; kernel_rfl

/-- clew/fold.rows -/
def v260 : VC :=
.seq (.reg [⟨some 0, none, .mv (.c (.sl none 0 0 true))⟩])
 (.seq (.reg [⟨some 1, none, .build [(.i .i64 0), (.i .i64 0), (.i .i64 0), (.i .i64 0)] [(0, 1, (.c (.i .i64 65))), (1, 1, (.c (.i .i64 90))), (2, 1, (.c (.i .i64 1))), (3, 1, (.c (.i .i64 32)))]⟩,
 ⟨some 2, none, .build [(.i .i64 0), (.i .i64 0), (.i .i64 0), (.i .i64 0)] [(0, 1, (.c (.i .i64 192))), (1, 1, (.c (.i .i64 214))), (2, 1, (.c (.i .i64 1))), (3, 1, (.c (.i .i64 32)))]⟩,
 ⟨some 3, none, .build [(.i .i64 0), (.i .i64 0), (.i .i64 0), (.i .i64 0)] [(0, 1, (.c (.i .i64 216))), (1, 1, (.c (.i .i64 222))), (2, 1, (.c (.i .i64 1))), (3, 1, (.c (.i .i64 32)))]⟩,
 ⟨some 4, none, .build [(.i .i64 0), (.i .i64 0), (.i .i64 0), (.i .i64 0)] [(0, 1, (.c (.i .i64 256))), (1, 1, (.c (.i .i64 302))), (2, 1, (.c (.i .i64 2))), (3, 1, (.c (.i .i64 1)))]⟩,
 ⟨some 5, none, .build [(.i .i64 0), (.i .i64 0), (.i .i64 0), (.i .i64 0)] [(0, 1, (.c (.i .i64 306))), (1, 1, (.c (.i .i64 310))), (2, 1, (.c (.i .i64 2))), (3, 1, (.c (.i .i64 1)))]⟩,
 ⟨some 6, none, .build [(.i .i64 0), (.i .i64 0), (.i .i64 0), (.i .i64 0)] [(0, 1, (.c (.i .i64 313))), (1, 1, (.c (.i .i64 327))), (2, 1, (.c (.i .i64 2))), (3, 1, (.c (.i .i64 1)))]⟩,
 ⟨some 7, none, .build [(.i .i64 0), (.i .i64 0), (.i .i64 0), (.i .i64 0)] [(0, 1, (.c (.i .i64 330))), (1, 1, (.c (.i .i64 374))), (2, 1, (.c (.i .i64 2))), (3, 1, (.c (.i .i64 1)))]⟩,
 ⟨some 8, none, .build [(.i .i64 0), (.i .i64 0), (.i .i64 0), (.i .i64 0)] [(0, 1, (.c (.i .i64 377))), (1, 1, (.c (.i .i64 381))), (2, 1, (.c (.i .i64 2))), (3, 1, (.c (.i .i64 1)))]⟩,
 ⟨some 9, none, .build [(.i .i64 0), (.i .i64 0), (.i .i64 0), (.i .i64 0)] [(0, 1, (.c (.i .i64 913))), (1, 1, (.c (.i .i64 929))), (2, 1, (.c (.i .i64 1))), (3, 1, (.c (.i .i64 32)))]⟩,
 ⟨some 10, none, .build [(.i .i64 0), (.i .i64 0), (.i .i64 0), (.i .i64 0)] [(0, 1, (.c (.i .i64 931))), (1, 1, (.c (.i .i64 939))), (2, 1, (.c (.i .i64 1))), (3, 1, (.c (.i .i64 32)))]⟩,
 ⟨some 11, none, .build [(.i .i64 0), (.i .i64 0), (.i .i64 0), (.i .i64 0)] [(0, 1, (.c (.i .i64 1024))), (1, 1, (.c (.i .i64 1039))), (2, 1, (.c (.i .i64 1))), (3, 1, (.c (.i .i64 80)))]⟩,
 ⟨some 12, none, .build [(.i .i64 0), (.i .i64 0), (.i .i64 0), (.i .i64 0)] [(0, 1, (.c (.i .i64 1040))), (1, 1, (.c (.i .i64 1071))), (2, 1, (.c (.i .i64 1))), (3, 1, (.c (.i .i64 32)))]⟩,
 ⟨some 13, none, .build [(.i .i64 0), (.i .i64 0), (.i .i64 0), (.i .i64 0)] [(0, 1, (.c (.i .i64 1120))), (1, 1, (.c (.i .i64 1152))), (2, 1, (.c (.i .i64 2))), (3, 1, (.c (.i .i64 1)))]⟩,
 ⟨some 14, none, .build [(.i .i64 0), (.i .i64 0), (.i .i64 0), (.i .i64 0)] [(0, 1, (.c (.i .i64 1329))), (1, 1, (.c (.i .i64 1366))), (2, 1, (.c (.i .i64 1))), (3, 1, (.c (.i .i64 48)))]⟩,
 ⟨some 15, none, .build [(.i .i64 0), (.i .i64 0), (.i .i64 0), (.i .i64 0)] [(0, 1, (.c (.i .i64 7680))), (1, 1, (.c (.i .i64 7828))), (2, 1, (.c (.i .i64 2))), (3, 1, (.c (.i .i64 1)))]⟩,
 ⟨some 16, none, .build [(.i .i64 0), (.i .i64 0), (.i .i64 0), (.i .i64 0)] [(0, 1, (.c (.i .i64 9398))), (1, 1, (.c (.i .i64 9423))), (2, 1, (.c (.i .i64 1))), (3, 1, (.c (.i .i64 26)))]⟩,
 ⟨some 17, none, .build [(.i .i64 0), (.i .i64 0), (.i .i64 0), (.i .i64 0)] [(0, 1, (.c (.i .i64 65313))), (1, 1, (.c (.i .i64 65338))), (2, 1, (.c (.i .i64 1))), (3, 1, (.c (.i .i64 32)))]⟩,
 ⟨some 18, none, .build [(.i .i64 0), (.i .i64 0), (.i .i64 0), (.i .i64 0)] [(0, 1, (.c (.i .i64 66560))), (1, 1, (.c (.i .i64 66599))), (2, 1, (.c (.i .i64 1))), (3, 1, (.c (.i .i64 40)))]⟩,
 ⟨some 19, none, .bsl 4 18 [(.i .i64 0), (.i .i64 0), (.i .i64 0), (.i .i64 0), (.i .i64 0), (.i .i64 0), (.i .i64 0), (.i .i64 0), (.i .i64 0), (.i .i64 0), (.i .i64 0), (.i .i64 0), (.i .i64 0), (.i .i64 0), (.i .i64 0), (.i .i64 0), (.i .i64 0), (.i .i64 0), (.i .i64 0), (.i .i64 0), (.i .i64 0), (.i .i64 0), (.i .i64 0), (.i .i64 0), (.i .i64 0), (.i .i64 0), (.i .i64 0), (.i .i64 0), (.i .i64 0), (.i .i64 0), (.i .i64 0), (.i .i64 0), (.i .i64 0), (.i .i64 0), (.i .i64 0), (.i .i64 0), (.i .i64 0), (.i .i64 0), (.i .i64 0), (.i .i64 0), (.i .i64 0), (.i .i64 0), (.i .i64 0), (.i .i64 0), (.i .i64 0), (.i .i64 0), (.i .i64 0), (.i .i64 0), (.i .i64 0), (.i .i64 0), (.i .i64 0), (.i .i64 0), (.i .i64 0), (.i .i64 0), (.i .i64 0), (.i .i64 0), (.i .i64 0), (.i .i64 0), (.i .i64 0), (.i .i64 0), (.i .i64 0), (.i .i64 0), (.i .i64 0), (.i .i64 0), (.i .i64 0), (.i .i64 0), (.i .i64 0), (.i .i64 0), (.i .i64 0), (.i .i64 0), (.i .i64 0), (.i .i64 0)] [(0, 4, (.t 1)), (4, 4, (.t 2)), (8, 4, (.t 3)), (12, 4, (.t 4)), (16, 4, (.t 5)), (20, 4, (.t 6)), (24, 4, (.t 7)), (28, 4, (.t 8)), (32, 4, (.t 9)), (36, 4, (.t 10)), (40, 4, (.t 11)), (44, 4, (.t 12)), (48, 4, (.t 13)), (52, 4, (.t 14)), (56, 4, (.t 15)), (60, 4, (.t 16)), (64, 4, (.t 17)), (68, 4, (.t 18))]⟩,
 ⟨some 0, none, .mv (.t 19)⟩])
 (.ret))
theorem fn260 : fnOf Tryz.prog Tryz.prog.globals.size ext 260 = .go 20 [.t 0] v260 := by rw [fnOf, Tryz.func260]; kernel_rfl

/-- (clew/fold.row).upper -/
def v261 : VC :=
.seq (.reg [⟨some 2, none, .box 4 (.t 0)⟩,
 ⟨some 4, none, .mv (.c (.b false))⟩])
 (.seq (.reg [⟨some 5, none, .mv (.t 1)⟩,
 ⟨some 6, none, .fa 0 (.t 2)⟩,
 ⟨some 7, none, .ld (.t 6)⟩,
 ⟨some 8, none, .bin .geq (.t 5) (.t 7)⟩,
 ⟨some 9, none, .mv (.t 8)⟩,
 ⟨some 10, some (9, true), .mv (.t 1)⟩,
 ⟨some 11, some (9, true), .fa 1 (.t 2)⟩,
 ⟨some 12, some (9, true), .ld (.t 11)⟩,
 ⟨some 13, some (9, true), .bin .leq (.t 10) (.t 12)⟩,
 ⟨some 14, none, .pick (.t 9) (.t 13) (.c (.b false))⟩,
 ⟨some 15, none, .mv (.t 14)⟩,
 ⟨some 16, some (15, true), .mv (.t 1)⟩,
 ⟨some 17, some (15, true), .fa 0 (.t 2)⟩,
 ⟨some 18, some (15, true), .ld (.t 17)⟩,
 ⟨some 19, some (15, true), .bin .sub (.t 16) (.t 18)⟩,
 ⟨some 20, some (15, true), .fa 2 (.t 2)⟩,
 ⟨some 21, some (15, true), .ld (.t 20)⟩,
 ⟨some 22, some (15, true), .bin .rem (.t 19) (.t 21)⟩,
 ⟨some 23, some (15, true), .bin .eql (.t 22) (.c (.i .i64 0))⟩,
 ⟨some 24, none, .pick (.t 15) (.t 23) (.c (.b false))⟩,
 ⟨some 4, none, .mv (.t 24)⟩])
 (.ret))
theorem fn261 : fnOf Tryz.prog Tryz.prog.globals.size ext 261 = .go 25 [.t 4] v261 := by rw [fnOf, Tryz.func261]; kernel_rfl

/-- clew/fold.singles -/
def v262 : VC :=
.seq (.reg [⟨some 0, none, .mv (.c (.sl none 0 0 true))⟩])
 (.seq (.reg [⟨some 1, none, .build [(.i .i64 0), (.i .i64 0)] [(0, 1, (.c (.i .i64 181))), (1, 1, (.c (.i .i64 956)))]⟩,
 ⟨some 2, none, .build [(.i .i64 0), (.i .i64 0)] [(0, 1, (.c (.i .i64 376))), (1, 1, (.c (.i .i64 255)))]⟩,
 ⟨some 3, none, .build [(.i .i64 0), (.i .i64 0)] [(0, 1, (.c (.i .i64 383))), (1, 1, (.c (.i .i64 115)))]⟩,
 ⟨some 4, none, .build [(.i .i64 0), (.i .i64 0)] [(0, 1, (.c (.i .i64 962))), (1, 1, (.c (.i .i64 963)))]⟩,
 ⟨some 5, none, .build [(.i .i64 0), (.i .i64 0)] [(0, 1, (.c (.i .i64 8490))), (1, 1, (.c (.i .i64 107)))]⟩,
 ⟨some 6, none, .build [(.i .i64 0), (.i .i64 0)] [(0, 1, (.c (.i .i64 8491))), (1, 1, (.c (.i .i64 229)))]⟩,
 ⟨some 7, none, .bsl 2 6 [(.i .i64 0), (.i .i64 0), (.i .i64 0), (.i .i64 0), (.i .i64 0), (.i .i64 0), (.i .i64 0), (.i .i64 0), (.i .i64 0), (.i .i64 0), (.i .i64 0), (.i .i64 0)] [(0, 2, (.t 1)), (2, 2, (.t 2)), (4, 2, (.t 3)), (6, 2, (.t 4)), (8, 2, (.t 5)), (10, 2, (.t 6))]⟩,
 ⟨some 0, none, .mv (.t 7)⟩])
 (.ret))
theorem fn262 : fnOf Tryz.prog Tryz.prog.globals.size ext 262 = .go 8 [.t 0] v262 := by rw [fnOf, Tryz.func262]; kernel_rfl

/-- slices.Sort[[]int,int] -/
def v263 : VC :=
.seq (.reg [⟨some 3, none, .mv (.t 0)⟩,
 ⟨some 4, none, .len 1 (.t 3)⟩,
 ⟨some 2, none, .mv (.t 4)⟩])
 (.reg [⟨some 5, none, .mv (.t 0)⟩,
 ⟨some 6, none, .mv (.t 2)⟩,
 ⟨some 7, none, .mv (.t 2)⟩,
 ⟨some 8, none, .cvi .u64 (.t 7)⟩,
 ⟨some 9, none, .call 175 [(.t 8)]⟩,
 ⟨some 10, none, .call 276 [(.t 5), (.c (.i .i64 0)), (.t 6), (.t 9)]⟩])
theorem fn263 : fnOf Tryz.prog Tryz.prog.globals.size ext 263 = .go 11 [] v263 := by rw [fnOf, Tryz.func263]; kernel_rfl

/-- clew/scan.Blank -/
def v264 : VC :=
.seq (.reg [⟨some 4, none, .mv (.c (.i .i64 0))⟩])
 (.seq (.reg [⟨some 6, none, .mv (.t 1)⟩,
 ⟨some 7, none, .mx [(.t 6), (.c (.i .i64 0))]⟩,
 ⟨some 1, none, .mv (.t 7)⟩])
 (.seq (.blk 0 (.loop (.seq (.seq (.reg [⟨some 8, none, .mv (.t 1)⟩,
 ⟨some 9, none, .mv (.t 0)⟩,
 ⟨some 10, none, .len 1 (.t 9)⟩,
 ⟨some 11, none, .bin .lss (.t 8) (.t 10)⟩])
 (.cond (.t 11) (.skip)
 (.exit 0)))
 (.blk 1 (.seq (.reg [⟨some 12, none, .mv (.t 0)⟩,
 ⟨some 13, none, .mv (.t 1)⟩,
 ⟨some 14, none, .ia 1 (.t 12) (.t 13)⟩,
 ⟨some 15, none, .ld (.t 14)⟩,
 ⟨some 5, none, .mv (.t 15)⟩])
 (.blk 2 (.seq (.reg [⟨some 18, none, .mv (.t 5)⟩,
 ⟨some 19, none, .bin .eql (.t 18) (.c (.i .u8 32))⟩,
 ⟨some 20, none, .mv (.t 19)⟩,
 ⟨some 21, some (20, false), .mv (.t 5)⟩,
 ⟨some 22, some (20, false), .bin .geq (.t 21) (.c (.i .u8 9))⟩,
 ⟨some 23, some (20, false), .mv (.t 22)⟩,
 ⟨some 24, some (23, true), .mv (.t 5)⟩,
 ⟨some 25, some (23, true), .bin .leq (.t 24) (.c (.i .u8 13))⟩,
 ⟨some 26, some (20, false), .pick (.t 23) (.t 25) (.c (.b false))⟩,
 ⟨some 27, none, .pick (.t 20) (.c (.b true)) (.t 26)⟩,
 ⟨some 17, none, .mv (.t 27)⟩])
 (.cond (.t 17) (.reg [⟨some 28, none, .mv (.t 1)⟩,
 ⟨some 29, none, .bin .add (.t 28) (.c (.i .i64 1))⟩,
 ⟨some 1, none, .mv (.t 29)⟩])
 (.seq (.reg [⟨some 31, none, .mv (.t 5)⟩,
 ⟨some 32, none, .bin .eql (.t 31) (.c (.i .u8 35))⟩,
 ⟨some 30, none, .mv (.t 32)⟩])
 (.cond (.t 30) (.blk 3 (.loop (.seq (.seq (.reg [⟨some 33, none, .mv (.t 1)⟩,
 ⟨some 34, none, .mv (.t 0)⟩,
 ⟨some 35, none, .len 1 (.t 34)⟩,
 ⟨some 36, none, .bin .lss (.t 33) (.t 35)⟩,
 ⟨some 37, none, .mv (.t 36)⟩,
 ⟨some 38, some (37, true), .mv (.t 0)⟩,
 ⟨some 39, some (37, true), .mv (.t 1)⟩,
 ⟨some 40, some (37, true), .ia 1 (.t 38) (.t 39)⟩,
 ⟨some 41, some (37, true), .ld (.t 40)⟩,
 ⟨some 42, some (37, true), .bin .neq (.t 41) (.c (.i .u8 10))⟩,
 ⟨some 43, none, .pick (.t 37) (.t 42) (.c (.b false))⟩])
 (.cond (.t 43) (.skip)
 (.exit 3)))
 (.blk 4 (.reg [⟨some 44, none, .mv (.t 1)⟩,
 ⟨some 45, none, .bin .add (.t 44) (.c (.i .i64 1))⟩,
 ⟨some 1, none, .mv (.t 45)⟩])))))
 (.seq (.reg [⟨some 16, none, .mv (.t 1)⟩,
 ⟨some 4, none, .mv (.t 16)⟩])
 (.ret))))))))))))
 (.seq (.reg [⟨some 46, none, .mv (.t 1)⟩,
 ⟨some 4, none, .mv (.t 46)⟩])
 (.ret))))
theorem fn264 : fnOf Tryz.prog Tryz.prog.globals.size ext 264 = .go 47 [.t 4] v264 := by rw [fnOf, Tryz.func264]; kernel_rfl

/-- (*clew/parse.parser).group -/
def v265 : VC :=
.seq (.reg [⟨some 4, none, .alloc 251 [(.i .i64 0), (.i .i64 0), (.i .i64 0), (.i .i64 0), (.i .i64 0), (.i .i64 0), (.i .i64 0), (.s ⟨#[]⟩), (.sl none 0 0 true), (.sl none 0 0 true), (.sl none 0 0 true)]⟩,
 ⟨some 5, none, .mv (.c (.b false))⟩])
 (.seq (.reg [⟨some 10, none, .mv (.t 0)⟩,
 ⟨some 11, none, .nc (.t 10)⟩,
 ⟨some 12, none, .fa 1 (.t 11)⟩,
 ⟨some 13, none, .ld (.t 12)⟩,
 ⟨some 6, none, .mv (.t 13)⟩])
 (.seq (.seq (.reg [⟨some 14, none, .mv (.t 1)⟩,
 ⟨some 15, none, .bin .gtr (.t 14) (.c (.i .i64 100))⟩])
 (.cond (.t 15) (.seq (.reg [⟨some 16, none, .mv (.t 0)⟩,
 ⟨some 17, none, .mv (.t 6)⟩,
 ⟨some 18, none, .call 164 [(.t 16), (.c (.i .i64 39)), (.t 17)]⟩])
 (.seq (.reg [⟨some 19, none, .build [(.i .i64 0), (.i .i64 0), (.i .i64 0), (.i .i64 0), (.i .i64 0), (.i .i64 0), (.i .i64 0), (.s ⟨#[]⟩), (.sl none 0 0 true), (.sl none 0 0 true), (.sl none 0 0 true)] []⟩,
 ⟨none, none, .st 11 (.t 4) (.t 19)⟩,
 ⟨some 5, none, .mv (.c (.b false))⟩])
 (.ret)))
 (.skip)))
 (.seq (.reg [⟨some 20, none, .mv (.t 0)⟩,
 ⟨some 21, none, .mv (.t 6)⟩,
 ⟨some 22, none, .call 277 [(.t 20), (.t 21)]⟩,
 ⟨some 7, none, .alloc 371 [(.i .i64 0), (.i .i64 0), (.s ⟨#[]⟩), (.b false), (.b false), (.b false), (.b false), (.b false)]⟩,
 ⟨none, none, .st 8 (.t 7) (.t 22)⟩])
 (.seq (.seq (.reg [⟨some 23, none, .fa 7 (.t 7)⟩,
 ⟨some 24, none, .ld (.t 23)⟩,
 ⟨some 25, none, .mv (.t 24)⟩,
 ⟨some 26, some (25, false), .mv (.t 0)⟩,
 ⟨some 27, some (25, false), .nc (.t 26)⟩,
 ⟨some 28, some (25, false), .fa 8 (.t 27)⟩,
 ⟨some 29, some (25, false), .ld (.t 28)⟩,
 ⟨some 30, some (25, false), .bin .neq (.t 29) (.c (.i .i64 0))⟩,
 ⟨some 31, none, .pick (.t 25) (.c (.b true)) (.t 30)⟩])
 (.cond (.t 31) (.seq (.reg [⟨some 32, none, .mv (.t 0)⟩,
 ⟨some 33, none, .fa 3 (.t 7)⟩,
 ⟨some 34, none, .ldn 4 (.t 33)⟩,
 ⟨some 35, none, .nc (.t 32)⟩,
 ⟨some 36, none, .fa 2 (.t 35)⟩,
 ⟨none, none, .st 4 (.t 36) (.t 34)⟩])
 (.seq (.reg [⟨some 37, none, .build [(.i .i64 0), (.i .i64 0), (.i .i64 0), (.i .i64 0), (.i .i64 0), (.i .i64 0), (.i .i64 0), (.s ⟨#[]⟩), (.sl none 0 0 true), (.sl none 0 0 true), (.sl none 0 0 true)] []⟩,
 ⟨none, none, .st 11 (.t 4) (.t 37)⟩,
 ⟨some 5, none, .mv (.c (.b false))⟩])
 (.ret)))
 (.skip)))
 (.seq (.seq (.reg [⟨some 38, none, .fa 0 (.t 7)⟩,
 ⟨some 39, none, .ld (.t 38)⟩,
 ⟨some 40, none, .bin .eql (.t 39) (.c (.i .i64 7))⟩])
 (.cond (.t 40) (.seq (.seq (.reg [⟨some 41, none, .mv (.t 0)⟩,
 ⟨some 42, none, .nc (.t 41)⟩,
 ⟨some 43, none, .fa 6 (.t 42)⟩,
 ⟨some 44, none, .ld (.t 43)⟩,
 ⟨some 45, none, .bin .eql (.t 44) (.c (.i .i64 99))⟩])
 (.cond (.t 45) (.seq (.reg [⟨some 46, none, .mv (.t 0)⟩,
 ⟨some 47, none, .mv (.t 6)⟩,
 ⟨some 48, none, .call 164 [(.t 46), (.c (.i .i64 40)), (.t 47)]⟩])
 (.seq (.reg [⟨some 49, none, .build [(.i .i64 0), (.i .i64 0), (.i .i64 0), (.i .i64 0), (.i .i64 0), (.i .i64 0), (.i .i64 0), (.s ⟨#[]⟩), (.sl none 0 0 true), (.sl none 0 0 true), (.sl none 0 0 true)] []⟩,
 ⟨none, none, .st 11 (.t 4) (.t 49)⟩,
 ⟨some 5, none, .mv (.c (.b false))⟩])
 (.ret)))
 (.skip)))
 (.seq (.reg [⟨some 50, none, .mv (.t 0)⟩,
 ⟨some 51, none, .nc (.t 50)⟩,
 ⟨some 52, none, .fa 6 (.t 51)⟩,
 ⟨some 53, none, .ld (.t 52)⟩,
 ⟨some 54, none, .bin .add (.t 53) (.c (.i .i64 1))⟩,
 ⟨some 55, none, .nc (.t 50)⟩,
 ⟨some 56, none, .fa 6 (.t 55)⟩,
 ⟨none, none, .st 1 (.t 56) (.t 54)⟩])
 (.seq (.reg [⟨some 57, none, .mv (.t 0)⟩,
 ⟨some 58, none, .nc (.t 57)⟩,
 ⟨some 59, none, .fa 6 (.t 58)⟩,
 ⟨some 60, none, .ld (.t 59)⟩,
 ⟨some 61, none, .fa 1 (.t 7)⟩,
 ⟨none, none, .st 1 (.t 61) (.t 60)⟩])
 (.regd [⟨some 62, none, .mv (.t 0)⟩,
 ⟨some 63, none, .mv (.t 0)⟩,
 ⟨some 64, none, .nc (.t 63)⟩,
 ⟨some 65, none, .fa 7 (.t 64)⟩,
 ⟨some 66, none, .ld (.t 65)⟩,
 ⟨some 67, none, .fa 2 (.t 7)⟩,
 ⟨some 68, none, .ld (.t 67)⟩,
 ⟨some 69, none, .bsl 1 1 [(.s ⟨#[]⟩)] [(0, 1, (.t 68))]⟩,
 ⟨some 70, none, .app ⟨1, (some 9)⟩ 16 (.t 66) (.t 69)⟩,
 ⟨some 71, none, .nc (.t 62)⟩,
 ⟨some 72, none, .fa 7 (.t 71)⟩,
 ⟨none, none, .st 1 (.t 72) (.t 70)⟩] [(4, 7)]))))
 (.skip)))
 (.seq (.reg [⟨some 73, none, .mv (.t 0)⟩,
 ⟨some 74, none, .nc (.t 73)⟩,
 ⟨some 75, none, .fa 2 (.t 74)⟩,
 ⟨some 76, none, .ldn 4 (.t 75)⟩,
 ⟨some 8, none, .alloc 246 [(.b false), (.b false), (.b false), (.b false)]⟩,
 ⟨none, none, .st 4 (.t 8) (.t 76)⟩])
 (.seq (.reg [⟨some 77, none, .mv (.t 0)⟩,
 ⟨some 78, none, .fa 3 (.t 7)⟩,
 ⟨some 79, none, .ldn 4 (.t 78)⟩,
 ⟨some 80, none, .nc (.t 77)⟩,
 ⟨some 81, none, .fa 2 (.t 80)⟩,
 ⟨none, none, .st 4 (.t 81) (.t 79)⟩])
 (.seq (.reg [⟨some 82, none, .mv (.t 0)⟩,
 ⟨some 83, none, .mv (.t 1)⟩,
 ⟨some 84, none, .call 162 [(.t 82), (.t 83)]⟩,
 ⟨some 9, none, .alloc 251 [(.i .i64 0), (.i .i64 0), (.i .i64 0), (.i .i64 0), (.i .i64 0), (.i .i64 0), (.i .i64 0), (.s ⟨#[]⟩), (.sl none 0 0 true), (.sl none 0 0 true), (.sl none 0 0 true)]⟩,
 ⟨none, none, .st 11 (.t 9) (.t 84)⟩])
 (.seq (.reg [⟨some 85, none, .mv (.t 0)⟩,
 ⟨some 86, none, .ldn 4 (.t 8)⟩,
 ⟨some 87, none, .nc (.t 85)⟩,
 ⟨some 88, none, .fa 2 (.t 87)⟩,
 ⟨none, none, .st 4 (.t 88) (.t 86)⟩])
 (.seq (.seq (.reg [⟨some 89, none, .mv (.t 0)⟩,
 ⟨some 90, none, .mv (.t 0)⟩,
 ⟨some 91, none, .nc (.t 90)⟩,
 ⟨some 92, none, .fa 1 (.t 91)⟩,
 ⟨some 93, none, .ld (.t 92)⟩,
 ⟨some 94, none, .call 200 [(.t 89), (.t 93)]⟩,
 ⟨some 95, none, .bin .neq (.t 94) (.c (.i .u8 41))⟩,
 ⟨some 96, none, .mv (.t 95)⟩,
 ⟨some 97, some (96, false), .mv (.t 0)⟩,
 ⟨some 98, some (96, false), .call 163 [(.t 97)]⟩,
 ⟨some 99, none, .pick (.t 96) (.c (.b true)) (.t 98)⟩])
 (.cond (.t 99) (.seq (.reg [⟨some 100, none, .mv (.t 0)⟩,
 ⟨some 101, none, .mv (.t 6)⟩,
 ⟨some 102, none, .call 164 [(.t 100), (.c (.i .i64 30)), (.t 101)]⟩])
 (.seq (.reg [⟨some 103, none, .build [(.i .i64 0), (.i .i64 0), (.i .i64 0), (.i .i64 0), (.i .i64 0), (.i .i64 0), (.i .i64 0), (.s ⟨#[]⟩), (.sl none 0 0 true), (.sl none 0 0 true), (.sl none 0 0 true)] []⟩,
 ⟨none, none, .st 11 (.t 4) (.t 103)⟩,
 ⟨some 5, none, .mv (.c (.b false))⟩])
 (.ret)))
 (.skip)))
 (.seq (.reg [⟨some 104, none, .mv (.t 0)⟩,
 ⟨some 105, none, .nc (.t 104)⟩,
 ⟨some 106, none, .fa 1 (.t 105)⟩,
 ⟨some 107, none, .ld (.t 106)⟩,
 ⟨some 108, none, .bin .add (.t 107) (.c (.i .i64 1))⟩,
 ⟨some 109, none, .nc (.t 104)⟩,
 ⟨some 110, none, .fa 1 (.t 109)⟩,
 ⟨none, none, .st 1 (.t 110) (.t 108)⟩])
 (.seq (.seq (.reg [⟨some 111, none, .fa 0 (.t 7)⟩,
 ⟨some 112, none, .ld (.t 111)⟩,
 ⟨some 113, none, .bin .eql (.t 112) (.c (.i .i64 0))⟩])
 (.cond (.t 113) (.seq (.reg [⟨some 114, none, .ldn 11 (.t 9)⟩,
 ⟨none, none, .st 11 (.t 4) (.t 114)⟩,
 ⟨some 5, none, .mv (.c (.b true))⟩])
 (.ret))
 (.skip)))
 (.seq (.regd [⟨some 115, none, .fa 0 (.t 7)⟩,
 ⟨some 116, none, .ld (.t 115)⟩,
 ⟨some 117, none, .mv (.t 6)⟩,
 ⟨some 118, none, .mv (.t 0)⟩,
 ⟨some 119, none, .nc (.t 118)⟩,
 ⟨some 120, none, .fa 1 (.t 119)⟩,
 ⟨some 121, none, .ld (.t 120)⟩,
 ⟨some 122, none, .fa 1 (.t 7)⟩,
 ⟨some 123, none, .ld (.t 122)⟩,
 ⟨some 124, none, .fa 2 (.t 7)⟩,
 ⟨some 125, none, .ld (.t 124)⟩,
 ⟨some 126, none, .build [(.i .i64 0), (.i .i64 0), (.i .i64 0), (.i .i64 0), (.i .i64 0), (.i .i64 0), (.i .i64 0), (.s ⟨#[]⟩), (.sl none 0 0 true), (.sl none 0 0 true)] [(0, 1, (.t 116)), (1, 1, (.t 117)), (2, 1, (.t 121)), (3, 1, (.t 123)), (7, 1, (.t 125))]⟩,
 ⟨some 127, none, .ldn 11 (.t 9)⟩,
 ⟨some 128, none, .bsl 11 1 [(.i .i64 0), (.i .i64 0), (.i .i64 0), (.i .i64 0), (.i .i64 0), (.i .i64 0), (.i .i64 0), (.s ⟨#[]⟩), (.sl none 0 0 true), (.sl none 0 0 true), (.sl none 0 0 true)] [(0, 11, (.t 127))]⟩,
 ⟨some 129, none, .build [(.i .i64 0), (.i .i64 0), (.i .i64 0), (.i .i64 0), (.i .i64 0), (.i .i64 0), (.i .i64 0), (.s ⟨#[]⟩), (.sl none 0 0 true), (.sl none 0 0 true), (.sl none 0 0 true)] [(0, 10, (.t 126)), (10, 1, (.t 128))]⟩,
 ⟨none, none, .st 11 (.t 4) (.t 129)⟩,
 ⟨some 5, none, .mv (.c (.b true))⟩] [(1, 13), (6, 13), (8, 13), (10, 13)])
 (.ret))))))))))))))
theorem fn265 : fnOf Tryz.prog Tryz.prog.globals.size ext 265 = .go 130 [.c 4 (some 11), .t 5] v265 := by rw [fnOf, Tryz.func265]; kernel_rfl

/-- clew/scan.Class -/
def v266 : VC :=
.seq (.reg [⟨some 6, none, .mv (.c (.sl none 0 0 true))⟩,
 ⟨some 7, none, .mv (.c (.i .i64 0))⟩,
 ⟨some 8, none, .mv (.c (.i .i64 0))⟩,
 ⟨some 9, none, .mv (.c (.i .i64 0))⟩])
 (.seq (.seq (.reg [⟨some 17, none, .mv (.t 0)⟩,
 ⟨some 18, none, .mv (.t 1)⟩,
 ⟨some 19, none, .call 275 [(.t 17), (.t 18)]⟩,
 ⟨some 20, none, .bin .neq (.t 19) (.c (.i .u8 91))⟩])
 (.cond (.t 20) (.seq (.reg [⟨some 6, none, .mv (.c (.sl none 0 0 true))⟩,
 ⟨some 7, none, .mv (.c (.i .i64 0))⟩,
 ⟨some 8, none, .mv (.c (.i .i64 10))⟩,
 ⟨some 9, none, .mv (.c (.i .i64 0))⟩])
 (.ret))
 (.skip)))
 (.seq (.reg [⟨some 21, none, .mv (.t 1)⟩,
 ⟨some 22, none, .bin .add (.t 21) (.c (.i .i64 1))⟩,
 ⟨some 10, none, .mv (.t 22)⟩])
 (.seq (.reg [⟨some 23, none, .mv (.t 0)⟩,
 ⟨some 24, none, .mv (.t 10)⟩,
 ⟨some 25, none, .call 275 [(.t 23), (.t 24)]⟩,
 ⟨some 26, none, .bin .eql (.t 25) (.c (.i .u8 94))⟩,
 ⟨some 11, none, .mv (.t 26)⟩])
 (.seq (.seq (.reg [⟨some 27, none, .mv (.t 11)⟩])
 (.cond (.t 27) (.reg [⟨some 28, none, .mv (.t 10)⟩,
 ⟨some 29, none, .bin .add (.t 28) (.c (.i .i64 1))⟩,
 ⟨some 10, none, .mv (.t 29)⟩])
 (.skip)))
 (.seq (.reg [⟨some 12, none, .mv (.c (.sl none 0 0 true))⟩])
 (.seq (.seq (.reg [⟨some 13, none, .mv (.c (.b true))⟩])
 (.blk 0 (.loop (.seq (.seq (.reg [⟨some 30, none, .mv (.t 13)⟩,
 ⟨some 31, none, .mv (.t 30)⟩,
 ⟨some 32, some (31, false), .mv (.t 0)⟩,
 ⟨some 33, some (31, false), .mv (.t 10)⟩,
 ⟨some 34, some (31, false), .call 275 [(.t 32), (.t 33)]⟩,
 ⟨some 35, some (31, false), .bin .neq (.t 34) (.c (.i .u8 93))⟩,
 ⟨some 36, none, .pick (.t 31) (.c (.b true)) (.t 35)⟩])
 (.cond (.t 36) (.skip)
 (.exit 0)))
 (.seq (.blk 1 (.seq (.seq (.reg [⟨some 37, none, .mv (.t 10)⟩,
 ⟨some 38, none, .mv (.t 0)⟩,
 ⟨some 39, none, .len 1 (.t 38)⟩,
 ⟨some 40, none, .bin .geq (.t 37) (.t 39)⟩])
 (.cond (.t 40) (.seq (.reg [⟨some 41, none, .mv (.t 1)⟩,
 ⟨some 6, none, .mv (.c (.sl none 0 0 true))⟩,
 ⟨some 7, none, .mv (.c (.i .i64 0))⟩,
 ⟨some 8, none, .mv (.c (.i .i64 33))⟩,
 ⟨some 9, none, .mv (.t 41)⟩])
 (.ret))
 (.skip)))
 (.seq (.reg [⟨some 43, none, .mv (.t 0)⟩,
 ⟨some 44, none, .mv (.t 10)⟩,
 ⟨some 45, none, .call 278 [(.t 43), (.t 44)]⟩,
 ⟨some 42, none, .mv (.t 45)⟩,
 ⟨some 46, none, .ext (.t 42) 0⟩,
 ⟨some 47, none, .ext (.t 42) 1⟩,
 ⟨some 48, none, .ext (.t 42) 2⟩,
 ⟨some 14, none, .alloc 374 [(.i .i64 0), (.i .i64 0), (.i .i64 0), (.s ⟨#[]⟩), (.sl none 0 0 true)]⟩,
 ⟨none, none, .st 5 (.t 14) (.t 46)⟩,
 ⟨some 15, none, .mv (.t 47)⟩,
 ⟨some 16, none, .mv (.t 48)⟩])
 (.seq (.seq (.reg [⟨some 49, none, .mv (.t 15)⟩,
 ⟨some 50, none, .bin .neq (.t 49) (.c (.i .i64 0))⟩])
 (.cond (.t 50) (.seq (.reg [⟨some 51, none, .mv (.t 15)⟩,
 ⟨some 52, none, .mv (.t 16)⟩,
 ⟨some 6, none, .mv (.c (.sl none 0 0 true))⟩,
 ⟨some 7, none, .mv (.c (.i .i64 0))⟩,
 ⟨some 8, none, .mv (.t 51)⟩,
 ⟨some 9, none, .mv (.t 52)⟩])
 (.ret))
 (.skip)))
 (.regd [⟨some 53, none, .mv (.t 12)⟩,
 ⟨some 54, none, .fa 4 (.t 14)⟩,
 ⟨some 55, none, .ld (.t 54)⟩,
 ⟨some 56, none, .app ⟨2, (some 57)⟩ 16 (.t 53) (.t 55)⟩,
 ⟨some 57, none, .fa 1 (.t 14)⟩,
 ⟨some 58, none, .ld (.t 57)⟩,
 ⟨some 12, none, .mv (.t 56)⟩,
 ⟨some 10, none, .mv (.t 58)⟩] [(5, 3)])))))
 (.reg [⟨some 13, none, .mv (.c (.b false))⟩]))))))
 (.seq (.reg [⟨some 59, none, .mv (.t 12)⟩,
 ⟨some 60, none, .call 76 [(.t 59)]⟩,
 ⟨some 12, none, .mv (.t 60)⟩])
 (.seq (.seq (.reg [⟨some 61, none, .mv (.t 2)⟩])
 (.cond (.t 61) (.reg [⟨some 62, none, .mv (.t 12)⟩,
 ⟨some 63, none, .call 279 [(.t 62)]⟩,
 ⟨some 12, none, .mv (.t 63)⟩])
 (.skip)))
 (.seq (.seq (.reg [⟨some 64, none, .mv (.t 11)⟩])
 (.cond (.t 64) (.reg [⟨some 65, none, .mv (.t 12)⟩,
 ⟨some 66, none, .call 280 [(.t 65)]⟩,
 ⟨some 12, none, .mv (.t 66)⟩])
 (.skip)))
 (.seq (.reg [⟨some 67, none, .mv (.t 12)⟩,
 ⟨some 68, none, .mv (.t 10)⟩,
 ⟨some 69, none, .bin .add (.t 68) (.c (.i .i64 1))⟩,
 ⟨some 6, none, .mv (.t 67)⟩,
 ⟨some 7, none, .mv (.t 69)⟩,
 ⟨some 8, none, .mv (.c (.i .i64 0))⟩,
 ⟨some 9, none, .mv (.c (.i .i64 0))⟩])
 (.ret)))))))))))
theorem fn266 : fnOf Tryz.prog Tryz.prog.globals.size ext 266 = .go 70 [.t 6, .t 7, .t 8, .t 9] v266 := by rw [fnOf, Tryz.func266]; kernel_rfl

/-- (*clew/parse.parser).set -/
def v267 : VC :=
.seq (.reg [⟨some 8, none, .alloc 251 [(.i .i64 0), (.i .i64 0), (.i .i64 0), (.i .i64 0), (.i .i64 0), (.i .i64 0), (.i .i64 0), (.s ⟨#[]⟩), (.sl none 0 0 true), (.sl none 0 0 true), (.sl none 0 0 true)]⟩])
 (.seq (.reg [⟨some 9, none, .mv (.t 0)⟩,
 ⟨some 10, none, .mv (.t 2)⟩,
 ⟨some 11, none, .nc (.t 9)⟩,
 ⟨some 12, none, .fa 1 (.t 11)⟩,
 ⟨none, none, .st 1 (.t 12) (.t 10)⟩])
 (.seq (.reg [⟨some 13, none, .mv (.t 1)⟩,
 ⟨some 14, none, .mv (.t 2)⟩,
 ⟨some 15, none, .mv (.t 3)⟩,
 ⟨some 16, none, .build [(.i .i64 0), (.i .i64 0), (.i .i64 0), (.i .i64 0), (.i .i64 0), (.i .i64 0), (.i .i64 0), (.s ⟨#[]⟩), (.sl none 0 0 true), (.sl none 0 0 true)] [(0, 1, (.c (.i .i64 2))), (1, 1, (.t 13)), (2, 1, (.t 14)), (8, 1, (.t 15))]⟩,
 ⟨some 17, none, .build [(.i .i64 0), (.i .i64 0), (.i .i64 0), (.i .i64 0), (.i .i64 0), (.i .i64 0), (.i .i64 0), (.s ⟨#[]⟩), (.sl none 0 0 true), (.sl none 0 0 true), (.sl none 0 0 true)] [(0, 10, (.t 16))]⟩,
 ⟨none, none, .st 11 (.t 8) (.t 17)⟩])
 (.ret)))
theorem fn267 : fnOf Tryz.prog Tryz.prog.globals.size ext 267 = .go 18 [.c 8 (some 11)] v267 := by rw [fnOf, Tryz.func267]; kernel_rfl

/-- clew/class.Any -/
def v268 : VC :=
.seq (.reg [⟨some 2, none, .mv (.c (.sl none 0 0 true))⟩])
 (.seq (.seq (.reg [⟨some 3, none, .mv (.t 0)⟩])
 (.cond (.t 3) (.seq (.reg [⟨some 4, none, .call 280 [(.c (.sl none 0 0 true))]⟩,
 ⟨some 2, none, .mv (.t 4)⟩])
 (.ret))
 (.skip)))
 (.seq (.reg [⟨some 5, none, .call 273 [(.c (.i .i64 10))]⟩,
 ⟨some 6, none, .call 280 [(.t 5)]⟩,
 ⟨some 2, none, .mv (.t 6)⟩])
 (.ret)))
theorem fn268 : fnOf Tryz.prog Tryz.prog.globals.size ext 268 = .go 7 [.t 2] v268 := by rw [fnOf, Tryz.func268]; kernel_rfl

/-- (*clew/parse.parser).hold -/
def v269 : VC :=
.seq (.reg [⟨some 8, none, .alloc 251 [(.i .i64 0), (.i .i64 0), (.i .i64 0), (.i .i64 0), (.i .i64 0), (.i .i64 0), (.i .i64 0), (.s ⟨#[]⟩), (.sl none 0 0 true), (.sl none 0 0 true), (.sl none 0 0 true)]⟩])
 (.seq (.reg [⟨some 9, none, .mv (.t 0)⟩,
 ⟨some 10, none, .mv (.t 2)⟩,
 ⟨some 11, none, .nc (.t 9)⟩,
 ⟨some 12, none, .fa 1 (.t 11)⟩,
 ⟨none, none, .st 1 (.t 12) (.t 10)⟩])
 (.seq (.reg [⟨some 13, none, .mv (.t 1)⟩,
 ⟨some 14, none, .mv (.t 2)⟩,
 ⟨some 15, none, .mv (.t 3)⟩,
 ⟨some 16, none, .build [(.i .i64 0), (.i .i64 0), (.i .i64 0), (.i .i64 0), (.i .i64 0), (.i .i64 0), (.i .i64 0), (.s ⟨#[]⟩), (.sl none 0 0 true), (.sl none 0 0 true)] [(0, 1, (.c (.i .i64 3))), (1, 1, (.t 13)), (2, 1, (.t 14)), (3, 1, (.t 15))]⟩,
 ⟨some 17, none, .build [(.i .i64 0), (.i .i64 0), (.i .i64 0), (.i .i64 0), (.i .i64 0), (.i .i64 0), (.i .i64 0), (.s ⟨#[]⟩), (.sl none 0 0 true), (.sl none 0 0 true), (.sl none 0 0 true)] [(0, 10, (.t 16))]⟩,
 ⟨none, none, .st 11 (.t 8) (.t 17)⟩])
 (.ret)))
theorem fn269 : fnOf Tryz.prog Tryz.prog.globals.size ext 269 = .go 18 [.c 8 (some 11)] v269 := by rw [fnOf, Tryz.func269]; kernel_rfl

/-- clew/parse.either -/
def v270 : VC :=
.seq (.reg [⟨some 6, none, .mv (.c (.i .i64 0))⟩])
 (.seq (.seq (.reg [⟨some 7, none, .mv (.t 0)⟩])
 (.cond (.t 7) (.seq (.reg [⟨some 8, none, .mv (.t 1)⟩,
 ⟨some 6, none, .mv (.t 8)⟩])
 (.ret))
 (.skip)))
 (.seq (.reg [⟨some 9, none, .mv (.t 2)⟩,
 ⟨some 6, none, .mv (.t 9)⟩])
 (.ret)))
theorem fn270 : fnOf Tryz.prog Tryz.prog.globals.size ext 270 = .go 10 [.t 6] v270 := by rw [fnOf, Tryz.func270]; kernel_rfl

/-- (*clew/parse.parser).escape -/
def v271 : VC :=
.seq (.reg [⟨some 2, none, .alloc 251 [(.i .i64 0), (.i .i64 0), (.i .i64 0), (.i .i64 0), (.i .i64 0), (.i .i64 0), (.i .i64 0), (.s ⟨#[]⟩), (.sl none 0 0 true), (.sl none 0 0 true), (.sl none 0 0 true)]⟩])
 (.seq (.reg [⟨some 6, none, .mv (.t 0)⟩,
 ⟨some 7, none, .nc (.t 6)⟩,
 ⟨some 8, none, .fa 1 (.t 7)⟩,
 ⟨some 9, none, .ld (.t 8)⟩,
 ⟨some 3, none, .mv (.t 9)⟩])
 (.seq (.reg [⟨some 11, none, .mv (.t 0)⟩,
 ⟨some 12, none, .nc (.t 11)⟩,
 ⟨some 13, none, .fa 0 (.t 12)⟩,
 ⟨some 14, none, .ld (.t 13)⟩,
 ⟨some 15, none, .mv (.t 3)⟩,
 ⟨some 16, none, .call 281 [(.t 14), (.t 15)]⟩,
 ⟨some 10, none, .mv (.t 16)⟩,
 ⟨some 17, none, .ext (.t 10) 0⟩,
 ⟨some 18, none, .ext (.t 10) 1⟩,
 ⟨some 4, none, .alloc 374 [(.i .i64 0), (.i .i64 0), (.i .i64 0), (.s ⟨#[]⟩), (.sl none 0 0 true)]⟩,
 ⟨none, none, .st 5 (.t 4) (.t 17)⟩,
 ⟨some 5, none, .mv (.t 18)⟩])
 (.seq (.seq (.reg [⟨some 19, none, .mv (.t 5)⟩,
 ⟨some 20, none, .bin .neq (.t 19) (.c (.i .i64 0))⟩])
 (.cond (.t 20) (.seq (.reg [⟨some 21, none, .mv (.t 0)⟩,
 ⟨some 22, none, .mv (.t 5)⟩,
 ⟨some 23, none, .mv (.t 3)⟩,
 ⟨some 24, none, .call 164 [(.t 21), (.t 22), (.t 23)]⟩])
 (.seq (.reg [⟨some 25, none, .build [(.i .i64 0), (.i .i64 0), (.i .i64 0), (.i .i64 0), (.i .i64 0), (.i .i64 0), (.i .i64 0), (.s ⟨#[]⟩), (.sl none 0 0 true), (.sl none 0 0 true), (.sl none 0 0 true)] []⟩,
 ⟨none, none, .st 11 (.t 2) (.t 25)⟩])
 (.ret)))
 (.skip)))
 (.seq (.seq (.reg [⟨some 26, none, .fa 0 (.t 4)⟩,
 ⟨some 27, none, .ld (.t 26)⟩])
 (.blk 0 (.seq (.reg [⟨some 29, none, .bin .eql (.t 27) (.c (.i .i64 1))⟩,
 ⟨some 28, none, .mv (.t 29)⟩])
 (.cond (.t 28) (.seq (.regd [⟨some 30, none, .mv (.t 0)⟩,
 ⟨some 31, none, .mv (.t 3)⟩,
 ⟨some 32, none, .fa 1 (.t 4)⟩,
 ⟨some 33, none, .ld (.t 32)⟩,
 ⟨some 34, none, .mv (.t 0)⟩,
 ⟨some 35, none, .fa 2 (.t 4)⟩,
 ⟨some 36, none, .ld (.t 35)⟩,
 ⟨some 37, none, .call 273 [(.t 36)]⟩,
 ⟨some 38, none, .call 272 [(.t 34), (.t 37)]⟩,
 ⟨some 39, none, .call 267 [(.t 30), (.t 31), (.t 33), (.t 38)]⟩,
 ⟨none, none, .st 11 (.t 2) (.t 39)⟩] [(3, 7), (3, 8)])
 (.ret))
 (.seq (.reg [⟨some 41, none, .bin .eql (.t 27) (.c (.i .i64 2))⟩,
 ⟨some 40, none, .mv (.t 41)⟩])
 (.cond (.t 40) (.seq (.regd [⟨some 42, none, .mv (.t 0)⟩,
 ⟨some 43, none, .mv (.t 3)⟩,
 ⟨some 44, none, .fa 1 (.t 4)⟩,
 ⟨some 45, none, .ld (.t 44)⟩,
 ⟨some 46, none, .mv (.t 0)⟩,
 ⟨some 47, none, .fa 4 (.t 4)⟩,
 ⟨some 48, none, .ld (.t 47)⟩,
 ⟨some 49, none, .call 272 [(.t 46), (.t 48)]⟩,
 ⟨some 50, none, .call 267 [(.t 42), (.t 43), (.t 45), (.t 49)]⟩,
 ⟨none, none, .st 11 (.t 2) (.t 50)⟩] [(3, 7)])
 (.ret))
 (.seq (.reg [⟨some 52, none, .bin .eql (.t 27) (.c (.i .i64 3))⟩,
 ⟨some 51, none, .mv (.t 52)⟩])
 (.cond (.t 51) (.seq (.reg [⟨some 53, none, .mv (.t 0)⟩,
 ⟨some 54, none, .mv (.t 3)⟩,
 ⟨some 55, none, .fa 1 (.t 4)⟩,
 ⟨some 56, none, .ld (.t 55)⟩,
 ⟨some 57, none, .fa 2 (.t 4)⟩,
 ⟨some 58, none, .ld (.t 57)⟩,
 ⟨some 59, none, .call 269 [(.t 53), (.t 54), (.t 56), (.t 58)]⟩,
 ⟨none, none, .st 11 (.t 2) (.t 59)⟩])
 (.ret))
 (.skip)))))))))
 (.seq (.reg [⟨some 60, none, .mv (.t 0)⟩,
 ⟨some 61, none, .fa 1 (.t 4)⟩,
 ⟨some 62, none, .ld (.t 61)⟩,
 ⟨some 63, none, .nc (.t 60)⟩,
 ⟨some 64, none, .fa 1 (.t 63)⟩,
 ⟨none, none, .st 1 (.t 64) (.t 62)⟩])
 (.seq (.regd [⟨some 65, none, .mv (.t 3)⟩,
 ⟨some 66, none, .fa 1 (.t 4)⟩,
 ⟨some 67, none, .ld (.t 66)⟩,
 ⟨some 68, none, .fa 2 (.t 4)⟩,
 ⟨some 69, none, .ld (.t 68)⟩,
 ⟨some 70, none, .fa 3 (.t 4)⟩,
 ⟨some 71, none, .ld (.t 70)⟩,
 ⟨some 72, none, .mv (.t 0)⟩,
 ⟨some 73, none, .nc (.t 72)⟩,
 ⟨some 74, none, .fa 2 (.t 73)⟩,
 ⟨some 75, none, .fa 0 (.t 74)⟩,
 ⟨some 76, none, .ld (.t 75)⟩,
 ⟨some 77, none, .call 270 [(.t 76), (.c (.i .i64 1)), (.c (.i .i64 0))]⟩,
 ⟨some 78, none, .build [(.i .i64 0), (.i .i64 0), (.i .i64 0), (.i .i64 0), (.i .i64 0), (.i .i64 0), (.i .i64 0), (.s ⟨#[]⟩), (.sl none 0 0 true), (.sl none 0 0 true)] [(0, 1, (.c (.i .i64 4))), (1, 1, (.t 65)), (2, 1, (.t 67)), (3, 1, (.t 69)), (7, 1, (.t 71)), (6, 1, (.t 77))]⟩,
 ⟨some 79, none, .build [(.i .i64 0), (.i .i64 0), (.i .i64 0), (.i .i64 0), (.i .i64 0), (.i .i64 0), (.i .i64 0), (.s ⟨#[]⟩), (.sl none 0 0 true), (.sl none 0 0 true), (.sl none 0 0 true)] [(0, 10, (.t 78))]⟩,
 ⟨none, none, .st 11 (.t 2) (.t 79)⟩] [(2, 12), (4, 12), (6, 12)])
 (.ret)))))))
theorem fn271 : fnOf Tryz.prog Tryz.prog.globals.size ext 271 = .go 80 [.c 2 (some 11)] v271 := by rw [fnOf, Tryz.func271]; kernel_rfl

/-- (*clew/parse.parser).closed -/
def v272 : VC :=
.seq (.reg [⟨some 4, none, .mv (.c (.sl none 0 0 true))⟩])
 (.seq (.seq (.reg [⟨some 5, none, .mv (.t 0)⟩,
 ⟨some 6, none, .nc (.t 5)⟩,
 ⟨some 7, none, .fa 2 (.t 6)⟩,
 ⟨some 8, none, .fa 0 (.t 7)⟩,
 ⟨some 9, none, .ld (.t 8)⟩])
 (.cond (.t 9) (.seq (.reg [⟨some 10, none, .mv (.t 1)⟩,
 ⟨some 11, none, .call 279 [(.t 10)]⟩,
 ⟨some 4, none, .mv (.t 11)⟩])
 (.ret))
 (.skip)))
 (.seq (.reg [⟨some 12, none, .mv (.t 1)⟩,
 ⟨some 4, none, .mv (.t 12)⟩])
 (.ret)))
theorem fn272 : fnOf Tryz.prog Tryz.prog.globals.size ext 272 = .go 13 [.t 4] v272 := by rw [fnOf, Tryz.func272]; kernel_rfl

/-- clew/rset.Of -/
def v273 : VC :=
.seq (.reg [⟨some 2, none, .mv (.c (.sl none 0 0 true))⟩])
 (.seq (.reg [⟨some 3, none, .mv (.t 0)⟩,
 ⟨some 4, none, .mv (.t 0)⟩,
 ⟨some 5, none, .build [(.i .i64 0), (.i .i64 0)] [(0, 1, (.t 3)), (1, 1, (.t 4))]⟩,
 ⟨some 6, none, .bsl 2 1 [(.i .i64 0), (.i .i64 0)] [(0, 2, (.t 5))]⟩,
 ⟨some 7, none, .call 76 [(.t 6)]⟩,
 ⟨some 2, none, .mv (.t 7)⟩])
 (.ret))
theorem fn273 : fnOf Tryz.prog Tryz.prog.globals.size ext 273 = .go 8 [.t 2] v273 := by rw [fnOf, Tryz.func273]; kernel_rfl

/-- clew/scan.counts -/
def v274 : VC :=
.seq (.reg [⟨some 4, none, .alloc 332 [(.i .i64 0), (.i .i64 0), (.i .i64 0), (.i .i64 0)]⟩,
 ⟨some 5, none, .mv (.c (.b false))⟩])
 (.seq (.seq (.reg [⟨some 6, none, .mv (.t 0)⟩,
 ⟨some 7, none, .mv (.t 1)⟩,
 ⟨some 8, none, .call 275 [(.t 6), (.t 7)]⟩])
 (.blk 0 (.seq (.reg [⟨some 10, none, .bin .eql (.t 8) (.c (.i .u8 42))⟩,
 ⟨some 9, none, .mv (.t 10)⟩])
 (.cond (.t 9) (.seq (.reg [⟨some 11, none, .mv (.t 1)⟩,
 ⟨some 12, none, .bin .add (.t 11) (.c (.i .i64 1))⟩,
 ⟨some 13, none, .build [(.i .i64 0), (.i .i64 0), (.i .i64 0), (.i .i64 0)] [(1, 1, (.c (.i .i64 (-1)))), (3, 1, (.t 12))]⟩,
 ⟨none, none, .st 4 (.t 4) (.t 13)⟩,
 ⟨some 5, none, .mv (.c (.b true))⟩])
 (.ret))
 (.seq (.reg [⟨some 15, none, .bin .eql (.t 8) (.c (.i .u8 43))⟩,
 ⟨some 14, none, .mv (.t 15)⟩])
 (.cond (.t 14) (.seq (.reg [⟨some 16, none, .mv (.t 1)⟩,
 ⟨some 17, none, .bin .add (.t 16) (.c (.i .i64 1))⟩,
 ⟨some 18, none, .build [(.i .i64 0), (.i .i64 0), (.i .i64 0), (.i .i64 0)] [(0, 1, (.c (.i .i64 1))), (1, 1, (.c (.i .i64 (-1)))), (3, 1, (.t 17))]⟩,
 ⟨none, none, .st 4 (.t 4) (.t 18)⟩,
 ⟨some 5, none, .mv (.c (.b true))⟩])
 (.ret))
 (.seq (.reg [⟨some 20, none, .bin .eql (.t 8) (.c (.i .u8 63))⟩,
 ⟨some 19, none, .mv (.t 20)⟩])
 (.cond (.t 19) (.seq (.reg [⟨some 21, none, .mv (.t 1)⟩,
 ⟨some 22, none, .bin .add (.t 21) (.c (.i .i64 1))⟩,
 ⟨some 23, none, .build [(.i .i64 0), (.i .i64 0), (.i .i64 0), (.i .i64 0)] [(1, 1, (.c (.i .i64 1))), (3, 1, (.t 22))]⟩,
 ⟨none, none, .st 4 (.t 4) (.t 23)⟩,
 ⟨some 5, none, .mv (.c (.b true))⟩])
 (.ret))
 (.seq (.reg [⟨some 25, none, .bin .eql (.t 8) (.c (.i .u8 123))⟩,
 ⟨some 24, none, .mv (.t 25)⟩])
 (.cond (.t 24) (.seq (.reg [⟨some 26, none, .mv (.t 0)⟩,
 ⟨some 27, none, .mv (.t 1)⟩,
 ⟨some 28, none, .call 282 [(.t 26), (.t 27)]⟩,
 ⟨some 29, none, .ext (.t 28) 0⟩,
 ⟨some 30, none, .ext (.t 28) 1⟩,
 ⟨none, none, .st 4 (.t 4) (.t 29)⟩,
 ⟨some 5, none, .mv (.t 30)⟩])
 (.ret))
 (.skip)))))))))))
 (.seq (.reg [⟨some 31, none, .build [(.i .i64 0), (.i .i64 0), (.i .i64 0), (.i .i64 0)] []⟩,
 ⟨none, none, .st 4 (.t 4) (.t 31)⟩,
 ⟨some 5, none, .mv (.c (.b false))⟩])
 (.ret)))
theorem fn274 : fnOf Tryz.prog Tryz.prog.globals.size ext 274 = .go 32 [.c 4 (some 4), .t 5] v274 := by rw [fnOf, Tryz.func274]; kernel_rfl

/-- clew/scan.at -/
def v275 : VC :=
.seq (.reg [⟨some 4, none, .mv (.c (.i .u8 0))⟩])
 (.seq (.seq (.reg [⟨some 5, none, .mv (.t 1)⟩,
 ⟨some 6, none, .bin .lss (.t 5) (.c (.i .i64 0))⟩,
 ⟨some 7, none, .mv (.t 6)⟩,
 ⟨some 8, some (7, false), .mv (.t 1)⟩,
 ⟨some 9, some (7, false), .mv (.t 0)⟩,
 ⟨some 10, some (7, false), .len 1 (.t 9)⟩,
 ⟨some 11, some (7, false), .bin .geq (.t 8) (.t 10)⟩,
 ⟨some 12, none, .pick (.t 7) (.c (.b true)) (.t 11)⟩])
 (.cond (.t 12) (.seq (.reg [⟨some 4, none, .mv (.c (.i .u8 0))⟩])
 (.ret))
 (.skip)))
 (.seq (.reg [⟨some 13, none, .mv (.t 0)⟩,
 ⟨some 14, none, .mv (.t 1)⟩,
 ⟨some 15, none, .ia 1 (.t 13) (.t 14)⟩,
 ⟨some 16, none, .ld (.t 15)⟩,
 ⟨some 4, none, .mv (.t 16)⟩])
 (.ret)))
theorem fn275 : fnOf Tryz.prog Tryz.prog.globals.size ext 275 = .go 17 [.t 4] v275 := by rw [fnOf, Tryz.func275]; kernel_rfl

end Go.Proofs.YtnbdamdcmofafaaGreatDoor
