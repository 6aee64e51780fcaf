/- The functions of the program as the interpreter's code, part 2; each is what the program's text gives. No condition. -/
import Derived.Test.YtnbdamdcmofafaaGreatDoorProg
import Derived.Test.YtnbdamdcmofafaaGreatDoorGwVE
import Derived.KernelRfl
namespace Go.Proofs.YtnbdamdcmofafaaGreatDoor
open Go.Vi

def v290 : VC :=
 .seq (.reg [⟨some 8, none, .mv (.c (.i .i64 0))⟩])
 (.seq (.regd [⟨some 11, none, .mv (.t 0)⟩,⟨some 12, none, .mv (.t 1)⟩,⟨some 13, none, .mv (.t 0)⟩,⟨some 14, none, .mv (.t 3)⟩,⟨some 15, none, .mv (.t 0)⟩,⟨some 16, none, .mv (.t 3)⟩,⟨some 17, none, .ia 1 (.t 15) (.t 16)⟩,⟨some 18, none, .ld (.t 17)⟩,⟨some 19, none, .mv (.t 0)⟩,⟨some 20, none, .mv (.t 1)⟩,⟨some 21, none, .ia 1 (.t 19) (.t 20)⟩,⟨some 22, none, .ld (.t 21)⟩,⟨some 23, none, .ia 1 (.t 11) (.t 12)⟩,⟨none, none, .st 1 (.t 23) (.t 18)⟩,⟨some 24, none, .ia 1 (.t 13) (.t 14)⟩,⟨none, none, .st 1 (.t 24) (.t 22)⟩] [])
 (.seq (.reg [⟨some 25, none, .mv (.t 1)⟩,⟨some 26, none, .bin .add (.t 25) (.c (.i .i64 1))⟩,⟨some 27, none, .mv (.t 2)⟩,⟨some 28, none, .bin .sub (.t 27) (.c (.i .i64 1))⟩,⟨some 9, none, .mv (.t 26)⟩,⟨some 10, none, .mv (.t 28)⟩])
 (.seq (.blk 0 (.loop (.blk 1 (.seq (.blk 2 (.loop (.seq (.seq (.regd [⟨some 29, none, .mv (.t 9)⟩,⟨some 30, none, .mv (.t 10)⟩,⟨some 31, none, .bin .leq (.t 29) (.t 30)⟩,⟨some 32, none, .mv (.t 31)⟩,⟨some 33, some (32, true), .mv (.t 0)⟩,⟨some 34, some (32, true), .mv (.t 1)⟩,⟨some 35, some (32, true), .ia 1 (.t 33) (.t 34)⟩,⟨some 36, some (32, true), .ld (.t 35)⟩,⟨some 37, some (32, true), .mv (.t 0)⟩,⟨some 38, some (32, true), .mv (.t 9)⟩,⟨some 39, some (32, true), .ia 1 (.t 37) (.t 38)⟩,⟨some 40, some (32, true), .ld (.t 39)⟩,⟨some 41, some (32, true), .call 289 [(.t 36), (.t 40)]⟩,⟨some 42, some (32, true), .un .not (.t 41)⟩,⟨some 43, none, .pick (.t 32) (.t 42) (.c (.b false))⟩] [])
 (.cond (.t 43) (.skip)
 (.exit 2)))
 (.blk 3 (.reg [⟨some 44, none, .mv (.t 9)⟩,⟨some 45, none, .bin .add (.t 44) (.c (.i .i64 1))⟩,⟨some 9, none, .mv (.t 45)⟩])))))
 (.seq (.blk 4 (.loop (.seq (.seq (.regd [⟨some 46, none, .mv (.t 9)⟩,⟨some 47, none, .mv (.t 10)⟩,⟨some 48, none, .bin .leq (.t 46) (.t 47)⟩,⟨some 49, none, .mv (.t 48)⟩,⟨some 50, some (49, true), .mv (.t 0)⟩,⟨some 51, some (49, true), .mv (.t 1)⟩,⟨some 52, some (49, true), .ia 1 (.t 50) (.t 51)⟩,⟨some 53, some (49, true), .ld (.t 52)⟩,⟨some 54, some (49, true), .mv (.t 0)⟩,⟨some 55, some (49, true), .mv (.t 10)⟩,⟨some 56, some (49, true), .ia 1 (.t 54) (.t 55)⟩,⟨some 57, some (49, true), .ld (.t 56)⟩,⟨some 58, some (49, true), .call 289 [(.t 53), (.t 57)]⟩,⟨some 59, none, .pick (.t 49) (.t 58) (.c (.b false))⟩] [])
 (.cond (.t 59) (.skip)
 (.exit 4)))
 (.blk 5 (.reg [⟨some 60, none, .mv (.t 10)⟩,⟨some 61, none, .bin .sub (.t 60) (.c (.i .i64 1))⟩,⟨some 10, none, .mv (.t 61)⟩])))))
 (.seq (.seq (.reg [⟨some 62, none, .mv (.t 9)⟩,⟨some 63, none, .mv (.t 10)⟩,⟨some 64, none, .bin .gtr (.t 62) (.t 63)⟩])
 (.cond (.t 64) (.exit 0)
 (.skip)))
 (.seq (.regd [⟨some 65, none, .mv (.t 0)⟩,⟨some 66, none, .mv (.t 9)⟩,⟨some 67, none, .mv (.t 0)⟩,⟨some 68, none, .mv (.t 10)⟩,⟨some 69, none, .mv (.t 0)⟩,⟨some 70, none, .mv (.t 10)⟩,⟨some 71, none, .ia 1 (.t 69) (.t 70)⟩,⟨some 72, none, .ld (.t 71)⟩,⟨some 73, none, .mv (.t 0)⟩,⟨some 74, none, .mv (.t 9)⟩,⟨some 75, none, .ia 1 (.t 73) (.t 74)⟩,⟨some 76, none, .ld (.t 75)⟩,⟨some 77, none, .ia 1 (.t 65) (.t 66)⟩,⟨none, none, .st 1 (.t 77) (.t 72)⟩,⟨some 78, none, .ia 1 (.t 67) (.t 68)⟩,⟨none, none, .st 1 (.t 78) (.t 76)⟩] [])
 (.seq (.reg [⟨some 79, none, .mv (.t 9)⟩,⟨some 80, none, .bin .add (.t 79) (.c (.i .i64 1))⟩,⟨some 9, none, .mv (.t 80)⟩])
 (.reg [⟨some 81, none, .mv (.t 10)⟩,⟨some 82, none, .bin .sub (.t 81) (.c (.i .i64 1))⟩,⟨some 10, none, .mv (.t 82)⟩])))))))))
 (.seq (.reg [⟨some 83, none, .mv (.t 9)⟩,⟨some 8, none, .mv (.t 83)⟩])
 (.ret)))))
theorem fn290 : F 290 = .go 84 [.t 8] v290 := by rw [F, fnOf, Tryz.func290]; kernel_rfl

def v291 : VC :=
 .seq (.reg [⟨some 8, none, .mv (.c (.i .i64 0))⟩,⟨some 9, none, .mv (.c (.b false))⟩])
 (.seq (.regd [⟨some 12, none, .mv (.t 0)⟩,⟨some 13, none, .mv (.t 1)⟩,⟨some 14, none, .mv (.t 0)⟩,⟨some 15, none, .mv (.t 3)⟩,⟨some 16, none, .mv (.t 0)⟩,⟨some 17, none, .mv (.t 3)⟩,⟨some 18, none, .ia 1 (.t 16) (.t 17)⟩,⟨some 19, none, .ld (.t 18)⟩,⟨some 20, none, .mv (.t 0)⟩,⟨some 21, none, .mv (.t 1)⟩,⟨some 22, none, .ia 1 (.t 20) (.t 21)⟩,⟨some 23, none, .ld (.t 22)⟩,⟨some 24, none, .ia 1 (.t 12) (.t 13)⟩,⟨none, none, .st 1 (.t 24) (.t 19)⟩,⟨some 25, none, .ia 1 (.t 14) (.t 15)⟩,⟨none, none, .st 1 (.t 25) (.t 23)⟩] [])
 (.seq (.reg [⟨some 26, none, .mv (.t 1)⟩,⟨some 27, none, .bin .add (.t 26) (.c (.i .i64 1))⟩,⟨some 28, none, .mv (.t 2)⟩,⟨some 29, none, .bin .sub (.t 28) (.c (.i .i64 1))⟩,⟨some 10, none, .mv (.t 27)⟩,⟨some 11, none, .mv (.t 29)⟩])
 (.seq (.blk 0 (.loop (.seq (.seq (.regd [⟨some 30, none, .mv (.t 10)⟩,⟨some 31, none, .mv (.t 11)⟩,⟨some 32, none, .bin .leq (.t 30) (.t 31)⟩,⟨some 33, none, .mv (.t 32)⟩,⟨some 34, some (33, true), .mv (.t 0)⟩,⟨some 35, some (33, true), .mv (.t 10)⟩,⟨some 36, some (33, true), .ia 1 (.t 34) (.t 35)⟩,⟨some 37, some (33, true), .ld (.t 36)⟩,⟨some 38, some (33, true), .mv (.t 0)⟩,⟨some 39, some (33, true), .mv (.t 1)⟩,⟨some 40, some (33, true), .ia 1 (.t 38) (.t 39)⟩,⟨some 41, some (33, true), .ld (.t 40)⟩,⟨some 42, some (33, true), .call 289 [(.t 37), (.t 41)]⟩,⟨some 43, none, .pick (.t 33) (.t 42) (.c (.b false))⟩] [])
 (.cond (.t 43) (.skip)
 (.exit 0)))
 (.blk 1 (.reg [⟨some 44, none, .mv (.t 10)⟩,⟨some 45, none, .bin .add (.t 44) (.c (.i .i64 1))⟩,⟨some 10, none, .mv (.t 45)⟩])))))
 (.seq (.blk 2 (.loop (.seq (.seq (.regd [⟨some 46, none, .mv (.t 10)⟩,⟨some 47, none, .mv (.t 11)⟩,⟨some 48, none, .bin .leq (.t 46) (.t 47)⟩,⟨some 49, none, .mv (.t 48)⟩,⟨some 50, some (49, true), .mv (.t 0)⟩,⟨some 51, some (49, true), .mv (.t 11)⟩,⟨some 52, some (49, true), .ia 1 (.t 50) (.t 51)⟩,⟨some 53, some (49, true), .ld (.t 52)⟩,⟨some 54, some (49, true), .mv (.t 0)⟩,⟨some 55, some (49, true), .mv (.t 1)⟩,⟨some 56, some (49, true), .ia 1 (.t 54) (.t 55)⟩,⟨some 57, some (49, true), .ld (.t 56)⟩,⟨some 58, some (49, true), .call 289 [(.t 53), (.t 57)]⟩,⟨some 59, some (49, true), .un .not (.t 58)⟩,⟨some 60, none, .pick (.t 49) (.t 59) (.c (.b false))⟩] [])
 (.cond (.t 60) (.skip)
 (.exit 2)))
 (.blk 3 (.reg [⟨some 61, none, .mv (.t 11)⟩,⟨some 62, none, .bin .sub (.t 61) (.c (.i .i64 1))⟩,⟨some 11, none, .mv (.t 62)⟩])))))
 (.seq (.seq (.reg [⟨some 63, none, .mv (.t 10)⟩,⟨some 64, none, .mv (.t 11)⟩,⟨some 65, none, .bin .gtr (.t 63) (.t 64)⟩])
 (.cond (.t 65) (.seq (.regd [⟨some 66, none, .mv (.t 0)⟩,⟨some 67, none, .mv (.t 11)⟩,⟨some 68, none, .mv (.t 0)⟩,⟨some 69, none, .mv (.t 1)⟩,⟨some 70, none, .mv (.t 0)⟩,⟨some 71, none, .mv (.t 1)⟩,⟨some 72, none, .ia 1 (.t 70) (.t 71)⟩,⟨some 73, none, .ld (.t 72)⟩,⟨some 74, none, .mv (.t 0)⟩,⟨some 75, none, .mv (.t 11)⟩,⟨some 76, none, .ia 1 (.t 74) (.t 75)⟩,⟨some 77, none, .ld (.t 76)⟩,⟨some 78, none, .ia 1 (.t 66) (.t 67)⟩,⟨none, none, .st 1 (.t 78) (.t 73)⟩,⟨some 79, none, .ia 1 (.t 68) (.t 69)⟩,⟨none, none, .st 1 (.t 79) (.t 77)⟩] [])
 (.seq (.reg [⟨some 80, none, .mv (.t 11)⟩,⟨some 8, none, .mv (.t 80)⟩,⟨some 9, none, .mv (.c (.b true))⟩])
 (.ret)))
 (.skip)))
 (.seq (.regd [⟨some 81, none, .mv (.t 0)⟩,⟨some 82, none, .mv (.t 10)⟩,⟨some 83, none, .mv (.t 0)⟩,⟨some 84, none, .mv (.t 11)⟩,⟨some 85, none, .mv (.t 0)⟩,⟨some 86, none, .mv (.t 11)⟩,⟨some 87, none, .ia 1 (.t 85) (.t 86)⟩,⟨some 88, none, .ld (.t 87)⟩,⟨some 89, none, .mv (.t 0)⟩,⟨some 90, none, .mv (.t 10)⟩,⟨some 91, none, .ia 1 (.t 89) (.t 90)⟩,⟨some 92, none, .ld (.t 91)⟩,⟨some 93, none, .ia 1 (.t 81) (.t 82)⟩,⟨none, none, .st 1 (.t 93) (.t 88)⟩,⟨some 94, none, .ia 1 (.t 83) (.t 84)⟩,⟨none, none, .st 1 (.t 94) (.t 92)⟩] [])
 (.seq (.reg [⟨some 95, none, .mv (.t 10)⟩,⟨some 96, none, .bin .add (.t 95) (.c (.i .i64 1))⟩,⟨some 10, none, .mv (.t 96)⟩])
 (.seq (.reg [⟨some 97, none, .mv (.t 11)⟩,⟨some 98, none, .bin .sub (.t 97) (.c (.i .i64 1))⟩,⟨some 11, none, .mv (.t 98)⟩])
 (.seq (.blk 4 (.loop (.blk 5 (.seq (.blk 6 (.loop (.seq (.seq (.regd [⟨some 99, none, .mv (.t 10)⟩,⟨some 100, none, .mv (.t 11)⟩,⟨some 101, none, .bin .leq (.t 99) (.t 100)⟩,⟨some 102, none, .mv (.t 101)⟩,⟨some 103, some (102, true), .mv (.t 0)⟩,⟨some 104, some (102, true), .mv (.t 10)⟩,⟨some 105, some (102, true), .ia 1 (.t 103) (.t 104)⟩,⟨some 106, some (102, true), .ld (.t 105)⟩,⟨some 107, some (102, true), .mv (.t 0)⟩,⟨some 108, some (102, true), .mv (.t 1)⟩,⟨some 109, some (102, true), .ia 1 (.t 107) (.t 108)⟩,⟨some 110, some (102, true), .ld (.t 109)⟩,⟨some 111, some (102, true), .call 289 [(.t 106), (.t 110)]⟩,⟨some 112, none, .pick (.t 102) (.t 111) (.c (.b false))⟩] [])
 (.cond (.t 112) (.skip)
 (.exit 6)))
 (.blk 7 (.reg [⟨some 113, none, .mv (.t 10)⟩,⟨some 114, none, .bin .add (.t 113) (.c (.i .i64 1))⟩,⟨some 10, none, .mv (.t 114)⟩])))))
 (.seq (.blk 8 (.loop (.seq (.seq (.regd [⟨some 115, none, .mv (.t 10)⟩,⟨some 116, none, .mv (.t 11)⟩,⟨some 117, none, .bin .leq (.t 115) (.t 116)⟩,⟨some 118, none, .mv (.t 117)⟩,⟨some 119, some (118, true), .mv (.t 0)⟩,⟨some 120, some (118, true), .mv (.t 11)⟩,⟨some 121, some (118, true), .ia 1 (.t 119) (.t 120)⟩,⟨some 122, some (118, true), .ld (.t 121)⟩,⟨some 123, some (118, true), .mv (.t 0)⟩,⟨some 124, some (118, true), .mv (.t 1)⟩,⟨some 125, some (118, true), .ia 1 (.t 123) (.t 124)⟩,⟨some 126, some (118, true), .ld (.t 125)⟩,⟨some 127, some (118, true), .call 289 [(.t 122), (.t 126)]⟩,⟨some 128, some (118, true), .un .not (.t 127)⟩,⟨some 129, none, .pick (.t 118) (.t 128) (.c (.b false))⟩] [])
 (.cond (.t 129) (.skip)
 (.exit 8)))
 (.blk 9 (.reg [⟨some 130, none, .mv (.t 11)⟩,⟨some 131, none, .bin .sub (.t 130) (.c (.i .i64 1))⟩,⟨some 11, none, .mv (.t 131)⟩])))))
 (.seq (.seq (.reg [⟨some 132, none, .mv (.t 10)⟩,⟨some 133, none, .mv (.t 11)⟩,⟨some 134, none, .bin .gtr (.t 132) (.t 133)⟩])
 (.cond (.t 134) (.exit 4)
 (.skip)))
 (.seq (.regd [⟨some 135, none, .mv (.t 0)⟩,⟨some 136, none, .mv (.t 10)⟩,⟨some 137, none, .mv (.t 0)⟩,⟨some 138, none, .mv (.t 11)⟩,⟨some 139, none, .mv (.t 0)⟩,⟨some 140, none, .mv (.t 11)⟩,⟨some 141, none, .ia 1 (.t 139) (.t 140)⟩,⟨some 142, none, .ld (.t 141)⟩,⟨some 143, none, .mv (.t 0)⟩,⟨some 144, none, .mv (.t 10)⟩,⟨some 145, none, .ia 1 (.t 143) (.t 144)⟩,⟨some 146, none, .ld (.t 145)⟩,⟨some 147, none, .ia 1 (.t 135) (.t 136)⟩,⟨none, none, .st 1 (.t 147) (.t 142)⟩,⟨some 148, none, .ia 1 (.t 137) (.t 138)⟩,⟨none, none, .st 1 (.t 148) (.t 146)⟩] [])
 (.seq (.reg [⟨some 149, none, .mv (.t 10)⟩,⟨some 150, none, .bin .add (.t 149) (.c (.i .i64 1))⟩,⟨some 10, none, .mv (.t 150)⟩])
 (.reg [⟨some 151, none, .mv (.t 11)⟩,⟨some 152, none, .bin .sub (.t 151) (.c (.i .i64 1))⟩,⟨some 11, none, .mv (.t 152)⟩])))))))))
 (.seq (.regd [⟨some 153, none, .mv (.t 0)⟩,⟨some 154, none, .mv (.t 11)⟩,⟨some 155, none, .mv (.t 0)⟩,⟨some 156, none, .mv (.t 1)⟩,⟨some 157, none, .mv (.t 0)⟩,⟨some 158, none, .mv (.t 1)⟩,⟨some 159, none, .ia 1 (.t 157) (.t 158)⟩,⟨some 160, none, .ld (.t 159)⟩,⟨some 161, none, .mv (.t 0)⟩,⟨some 162, none, .mv (.t 11)⟩,⟨some 163, none, .ia 1 (.t 161) (.t 162)⟩,⟨some 164, none, .ld (.t 163)⟩,⟨some 165, none, .ia 1 (.t 153) (.t 154)⟩,⟨none, none, .st 1 (.t 165) (.t 160)⟩,⟨some 166, none, .ia 1 (.t 155) (.t 156)⟩,⟨none, none, .st 1 (.t 166) (.t 164)⟩] [])
 (.seq (.reg [⟨some 167, none, .mv (.t 11)⟩,⟨some 8, none, .mv (.t 167)⟩,⟨some 9, none, .mv (.c (.b false))⟩])
 (.ret))))))))))))
theorem fn291 : F 291 = .go 168 [.t 8, .t 9] v291 := by rw [F, fnOf, Tryz.func291]; kernel_rfl

def v292 : VC :=
 .seq (.reg [⟨some 6, none, .mv (.c (.i .i64 0))⟩])
 (.seq (.reg [⟨some 7, none, .mv (.t 0)⟩,⟨some 8, none, .bin .eql (.t 7) (.c (.i .u8 61))⟩,⟨some 9, none, .mv (.t 1)⟩,⟨some 10, none, .mv (.t 2)⟩,⟨some 11, none, .call 270 [(.t 8), (.t 9), (.t 10)]⟩,⟨some 6, none, .mv (.t 11)⟩])
 (.ret))
theorem fn292 : F 292 = .go 12 [.t 6] v292 := by rw [F, fnOf, Tryz.func292]; kernel_rfl

def v293 : VC :=
 .seq (.reg [⟨some 4, none, .alloc 371 [(.i .i64 0), (.i .i64 0), (.s ⟨#[]⟩), (.b false), (.b false), (.b false), (.b false), (.b false)]⟩])
 (.seq (.reg [⟨some 6, none, .mv (.t 0)⟩,⟨some 7, none, .nc (.t 6)⟩,⟨some 8, none, .fa 0 (.t 7)⟩,⟨some 9, none, .ld (.t 8)⟩,⟨some 10, none, .mv (.t 1)⟩,⟨some 11, none, .slc 1 (.t 9) (some (.t 10)) none none⟩,⟨some 12, none, .call 308 [(.t 11), (.c (.i .u8 41))]⟩,⟨some 5, none, .mv (.t 12)⟩])
 (.seq (.seq (.reg [⟨some 13, none, .mv (.t 5)⟩,⟨some 14, none, .bin .lss (.t 13) (.c (.i .i64 0))⟩])
 (.cond (.t 14) (.reg [⟨some 15, none, .mv (.t 0)⟩,⟨some 16, none, .mv (.t 1)⟩,⟨some 17, none, .call 164 [(.t 15), (.c (.i .i64 30)), (.t 16)]⟩])
 (.skip)))
 (.seq (.reg [⟨some 18, none, .mv (.t 0)⟩,⟨some 19, none, .mv (.t 1)⟩,⟨some 20, none, .mv (.t 5)⟩,⟨some 21, none, .bin .add (.t 19) (.t 20)⟩,⟨some 22, none, .bin .add (.t 21) (.c (.i .i64 1))⟩,⟨some 23, none, .nc (.t 18)⟩,⟨some 24, none, .fa 1 (.t 23)⟩,⟨none, none, .st 1 (.t 24) (.t 22)⟩])
 (.seq (.reg [⟨some 25, none, .mv (.t 0)⟩,⟨some 26, none, .nc (.t 25)⟩,⟨some 27, none, .fa 2 (.t 26)⟩,⟨some 28, none, .ldn 4 (.t 27)⟩,⟨some 29, none, .build [(.i .i64 0), (.i .i64 0), (.s ⟨#[]⟩), (.b false), (.b false), (.b false), (.b false), (.b false)] [(3, 4, (.t 28)), (7, 1, (.c (.b true)))]⟩,⟨none, none, .st 8 (.t 4) (.t 29)⟩])
 (.ret)))))
theorem fn293 : F 293 = .go 30 [.c 4 (some 8)] v293 := by rw [F, fnOf, Tryz.func293]; kernel_rfl

def v294 : VC :=
 .seq (.reg [⟨some 4, none, .alloc 371 [(.i .i64 0), (.i .i64 0), (.s ⟨#[]⟩), (.b false), (.b false), (.b false), (.b false), (.b false)]⟩])
 (.seq (.reg [⟨some 9, none, .mv (.t 0)⟩,⟨some 10, none, .nc (.t 9)⟩,⟨some 11, none, .fa 0 (.t 10)⟩,⟨some 12, none, .ld (.t 11)⟩,⟨some 13, none, .mv (.t 1)⟩,⟨some 14, none, .call 303 [(.t 12), (.t 13)]⟩,⟨some 8, none, .mv (.t 14)⟩,⟨some 15, none, .ext (.t 8) 0⟩,⟨some 16, none, .ext (.t 8) 1⟩,⟨some 17, none, .ext (.t 8) 2⟩,⟨some 5, none, .mv (.t 15)⟩,⟨some 6, none, .mv (.t 16)⟩,⟨some 7, none, .mv (.t 17)⟩])
 (.seq (.seq (.reg [⟨some 18, none, .mv (.t 7)⟩,⟨some 19, none, .bin .eql (.t 18) (.c (.i .i64 0))⟩,⟨some 20, none, .mv (.t 19)⟩,⟨some 21, some (20, true), .mv (.t 0)⟩,⟨some 22, some (20, true), .nc (.t 21)⟩,⟨some 23, some (20, true), .fa 7 (.t 22)⟩,⟨some 24, some (20, true), .ld (.t 23)⟩,⟨some 25, some (20, true), .mv (.t 5)⟩,⟨some 26, some (20, true), .call 309 [(.t 24), (.t 25)]⟩,⟨some 27, none, .pick (.t 20) (.t 26) (.c (.b false))⟩])
 (.cond (.t 27) (.reg [⟨some 7, none, .mv (.c (.i .i64 37))⟩])
 (.skip)))
 (.seq (.seq (.reg [⟨some 28, none, .mv (.t 7)⟩,⟨some 29, none, .bin .neq (.t 28) (.c (.i .i64 0))⟩])
 (.cond (.t 29) (.reg [⟨some 30, none, .mv (.t 0)⟩,⟨some 31, none, .mv (.t 7)⟩,⟨some 32, none, .mv (.t 1)⟩,⟨some 33, none, .call 164 [(.t 30), (.t 31), (.t 32)]⟩])
 (.skip)))
 (.seq (.reg [⟨some 34, none, .mv (.t 0)⟩,⟨some 35, none, .mv (.t 6)⟩,⟨some 36, none, .nc (.t 34)⟩,⟨some 37, none, .fa 1 (.t 36)⟩,⟨none, none, .st 1 (.t 37) (.t 35)⟩])
 (.seq (.reg [⟨some 38, none, .mv (.t 5)⟩,⟨some 39, none, .mv (.t 0)⟩,⟨some 40, none, .nc (.t 39)⟩,⟨some 41, none, .fa 2 (.t 40)⟩,⟨some 42, none, .ldn 4 (.t 41)⟩,⟨some 43, none, .build [(.i .i64 0), (.i .i64 0), (.s ⟨#[]⟩), (.b false), (.b false), (.b false), (.b false), (.b false)] [(0, 1, (.c (.i .i64 7))), (2, 1, (.t 38)), (3, 4, (.t 42))]⟩,⟨none, none, .st 8 (.t 4) (.t 43)⟩])
 (.ret))))))
theorem fn294 : F 294 = .go 44 [.c 4 (some 8)] v294 := by rw [F, fnOf, Tryz.func294]; kernel_rfl

def v295 : VC :=
 .seq (.reg [⟨some 2, none, .alloc 371 [(.i .i64 0), (.i .i64 0), (.s ⟨#[]⟩), (.b false), (.b false), (.b false), (.b false), (.b false)]⟩])
 (.seq (.reg [⟨some 7, none, .mv (.t 0)⟩,⟨some 8, none, .nc (.t 7)⟩,⟨some 9, none, .fa 2 (.t 8)⟩,⟨some 10, none, .ldn 4 (.t 9)⟩,⟨some 11, none, .build [(.i .i64 0), (.i .i64 0), (.s ⟨#[]⟩), (.b false), (.b false), (.b false), (.b false), (.b false)] [(3, 4, (.t 10))]⟩,⟨some 3, none, .alloc 371 [(.i .i64 0), (.i .i64 0), (.s ⟨#[]⟩), (.b false), (.b false), (.b false), (.b false), (.b false)]⟩,⟨none, none, .st 8 (.t 3) (.t 11)⟩])
 (.seq (.reg [⟨some 4, none, .mv (.c (.b true))⟩,⟨some 5, none, .mv (.c (.b false))⟩])
 (.blk 0 (.loop (.seq (.blk 1 (.seq (.reg [⟨some 19, none, .mv (.t 0)⟩,⟨some 20, none, .mv (.t 0)⟩,⟨some 21, none, .nc (.t 20)⟩,⟨some 22, none, .fa 1 (.t 21)⟩,⟨some 23, none, .ld (.t 22)⟩,⟨some 24, none, .call 200 [(.t 19), (.t 23)]⟩,⟨some 6, none, .mv (.t 24)⟩])
 (.blk 2 (.seq (.reg [⟨some 33, none, .fa 3 (.t 3)⟩,⟨some 34, none, .mv (.t 6)⟩,⟨some 35, none, .mv (.t 4)⟩,⟨some 36, none, .call 310 [(.t 33), (.t 34), (.t 35)]⟩,⟨some 32, none, .mv (.t 36)⟩])
 (.cond (.t 32) (.reg [⟨some 5, none, .mv (.c (.b true))⟩])
 (.seq (.reg [⟨some 38, none, .mv (.t 6)⟩,⟨some 39, none, .bin .eql (.t 38) (.c (.i .u8 45))⟩,⟨some 40, none, .mv (.t 39)⟩,⟨some 41, some (40, true), .mv (.t 4)⟩,⟨some 42, none, .pick (.t 40) (.t 41) (.c (.b false))⟩,⟨some 37, none, .mv (.t 42)⟩])
 (.cond (.t 37) (.reg [⟨some 4, none, .mv (.c (.b false))⟩,⟨some 5, none, .mv (.c (.b false))⟩])
 (.seq (.reg [⟨some 44, none, .mv (.t 5)⟩,⟨some 45, none, .mv (.t 44)⟩,⟨some 46, some (45, true), .mv (.t 6)⟩,⟨some 47, some (45, true), .bin .eql (.t 46) (.c (.i .u8 58))⟩,⟨some 48, some (45, true), .mv (.t 47)⟩,⟨some 49, some (48, false), .mv (.t 6)⟩,⟨some 50, some (48, false), .bin .eql (.t 49) (.c (.i .u8 41))⟩,⟨some 51, some (45, true), .pick (.t 48) (.c (.b true)) (.t 50)⟩,⟨some 52, none, .pick (.t 45) (.t 51) (.c (.b false))⟩,⟨some 43, none, .mv (.t 52)⟩])
 (.cond (.t 43) (.seq (.reg [⟨some 53, none, .mv (.t 6)⟩,⟨some 54, none, .bin .eql (.t 53) (.c (.i .u8 41))⟩,⟨some 55, none, .fa 7 (.t 3)⟩,⟨none, none, .st 1 (.t 55) (.t 54)⟩])
 (.seq (.reg [⟨some 56, none, .mv (.t 0)⟩,⟨some 57, none, .nc (.t 56)⟩,⟨some 58, none, .fa 1 (.t 57)⟩,⟨some 59, none, .ld (.t 58)⟩,⟨some 60, none, .bin .add (.t 59) (.c (.i .i64 1))⟩,⟨some 61, none, .nc (.t 56)⟩,⟨some 62, none, .fa 1 (.t 61)⟩,⟨none, none, .st 1 (.t 62) (.t 60)⟩])
 (.seq (.reg [⟨some 63, none, .ldn 8 (.t 3)⟩,⟨none, none, .st 8 (.t 2) (.t 63)⟩])
 (.ret))))
 (.seq (.reg [⟨some 25, none, .mv (.t 0)⟩,⟨some 26, none, .mv (.t 0)⟩,⟨some 27, none, .nc (.t 26)⟩,⟨some 28, none, .fa 1 (.t 27)⟩,⟨some 29, none, .ld (.t 28)⟩,⟨some 30, none, .call 164 [(.t 25), (.c (.i .i64 35)), (.t 29)]⟩])
 (.seq (.reg [⟨some 31, none, .ldn 8 (.t 3)⟩,⟨none, none, .st 8 (.t 2) (.t 31)⟩])
 (.ret))))))))))))
 (.reg [⟨some 12, none, .mv (.t 0)⟩,⟨some 13, none, .nc (.t 12)⟩,⟨some 14, none, .fa 1 (.t 13)⟩,⟨some 15, none, .ld (.t 14)⟩,⟨some 16, none, .bin .add (.t 15) (.c (.i .i64 1))⟩,⟨some 17, none, .nc (.t 12)⟩,⟨some 18, none, .fa 1 (.t 17)⟩,⟨none, none, .st 1 (.t 18) (.t 16)⟩]))))))
theorem fn295 : F 295 = .go 64 [.c 2 (some 8)] v295 := by rw [F, fnOf, Tryz.func295]; kernel_rfl

def v296 : VC :=
 .seq (.reg [⟨some 4, none, .alloc 374 [(.i .i64 0), (.i .i64 0), (.i .i64 0), (.s ⟨#[]⟩), (.sl none 0 0 true)]⟩,⟨some 5, none, .mv (.c (.i .i64 0))⟩])
 (.seq (.blk 0 (.seq (.reg [⟨some 9, none, .mv (.t 0)⟩,⟨some 10, none, .mv (.t 1)⟩,⟨some 11, none, .mv (.t 1)⟩,⟨some 12, none, .bin .add (.t 11) (.c (.i .i64 2))⟩,⟨some 13, none, .mv (.t 0)⟩,⟨some 14, none, .len 1 (.t 13)⟩,⟨some 15, none, .mn [(.t 12), (.t 14)]⟩,⟨some 16, none, .slc 1 (.t 9) (some (.t 10)) (some (.t 15)) none⟩,⟨some 17, none, .cvs (.t 16)⟩,⟨some 18, none, .call 311 [(.t 17), (.c (.s ⟨#[91, 58]⟩))]⟩,⟨some 8, none, .mv (.t 18)⟩])
 (.cond (.t 8) (.seq (.reg [⟨some 19, none, .mv (.t 0)⟩,⟨some 20, none, .mv (.t 1)⟩,⟨some 21, none, .call 312 [(.t 19), (.t 20)]⟩,⟨some 22, none, .ext (.t 21) 0⟩,⟨some 23, none, .ext (.t 21) 1⟩,⟨none, none, .st 5 (.t 4) (.t 22)⟩,⟨some 5, none, .mv (.t 23)⟩])
 (.ret))
 (.seq (.reg [⟨some 25, none, .mv (.t 0)⟩,⟨some 26, none, .mv (.t 1)⟩,⟨some 27, none, .ia 1 (.t 25) (.t 26)⟩,⟨some 28, none, .ld (.t 27)⟩,⟨some 29, none, .bin .eql (.t 28) (.c (.i .u8 92))⟩,⟨some 24, none, .mv (.t 29)⟩])
 (.cond (.t 24) (.seq (.reg [⟨some 30, none, .mv (.t 0)⟩,⟨some 31, none, .mv (.t 1)⟩,⟨some 32, none, .call 313 [(.t 30), (.t 31)]⟩,⟨some 33, none, .ext (.t 32) 0⟩,⟨some 34, none, .ext (.t 32) 1⟩,⟨none, none, .st 5 (.t 4) (.t 33)⟩,⟨some 5, none, .mv (.t 34)⟩])
 (.ret))
 (.skip))))))
 (.seq (.reg [⟨some 36, none, .mv (.t 0)⟩,⟨some 37, none, .mv (.t 1)⟩,⟨some 38, none, .call 135 [(.t 36), (.t 37)]⟩,⟨some 35, none, .mv (.t 38)⟩,⟨some 39, none, .ext (.t 35) 0⟩,⟨some 40, none, .ext (.t 35) 1⟩,⟨some 6, none, .mv (.t 39)⟩,⟨some 7, none, .mv (.t 40)⟩])
 (.seq (.reg [⟨some 41, none, .mv (.t 6)⟩,⟨some 42, none, .mv (.t 1)⟩,⟨some 43, none, .mv (.t 7)⟩,⟨some 44, none, .bin .add (.t 42) (.t 43)⟩,⟨some 45, none, .build [(.i .i64 0), (.i .i64 0), (.i .i64 0), (.s ⟨#[]⟩), (.sl none 0 0 true)] [(0, 1, (.c (.i .i64 1))), (2, 1, (.t 41)), (1, 1, (.t 44))]⟩,⟨none, none, .st 5 (.t 4) (.t 45)⟩,⟨some 5, none, .mv (.c (.i .i64 0))⟩])
 (.ret))))
theorem fn296 : F 296 = .go 46 [.c 4 (some 5), .t 5] v296 := by rw [F, fnOf, Tryz.func296]; kernel_rfl

def v297 : VC :=
 .seq (.reg [⟨some 4, none, .mv (.c (.b false))⟩])
 (.seq (.reg [⟨some 5, none, .mv (.t 0)⟩,⟨some 6, none, .mv (.t 1)⟩,⟨some 7, none, .call 275 [(.t 5), (.t 6)]⟩,⟨some 8, none, .bin .eql (.t 7) (.c (.i .u8 45))⟩,⟨some 9, none, .mv (.t 8)⟩,⟨some 10, some (9, true), .mv (.t 1)⟩,⟨some 11, some (9, true), .bin .add (.t 10) (.c (.i .i64 1))⟩,⟨some 12, some (9, true), .mv (.t 0)⟩,⟨some 13, some (9, true), .len 1 (.t 12)⟩,⟨some 14, some (9, true), .bin .lss (.t 11) (.t 13)⟩,⟨some 15, none, .pick (.t 9) (.t 14) (.c (.b false))⟩,⟨some 16, none, .mv (.t 15)⟩,⟨some 17, some (16, true), .mv (.t 0)⟩,⟨some 18, some (16, true), .mv (.t 1)⟩,⟨some 19, some (16, true), .bin .add (.t 18) (.c (.i .i64 1))⟩,⟨some 20, some (16, true), .ia 1 (.t 17) (.t 19)⟩,⟨some 21, some (16, true), .ld (.t 20)⟩,⟨some 22, some (16, true), .bin .neq (.t 21) (.c (.i .u8 93))⟩,⟨some 23, none, .pick (.t 16) (.t 22) (.c (.b false))⟩,⟨some 4, none, .mv (.t 23)⟩])
 (.ret))
theorem fn297 : F 297 = .go 24 [.t 4] v297 := by rw [F, fnOf, Tryz.func297]; kernel_rfl

def v298 : VC :=
 .seq (.reg [⟨some 2, none, .mv (.c (.sl none 0 0 true))⟩])
 (.seq (.seq (.reg [⟨some 3, none, .mv (.t 0)⟩,⟨some 4, none, .eqn .sl false (.t 3) (.c (.sl none 0 0 true))⟩])
 (.cond (.t 4) (.seq (.reg [⟨some 2, none, .mv (.c (.sl none 0 0 true))⟩])
 (.ret))
 (.skip)))
 (.seq (.reg [⟨some 5, none, .bsl 2 0 [] []⟩,⟨some 6, none, .mv (.t 0)⟩,⟨some 7, none, .app ⟨2, (some 57)⟩ 16 (.t 5) (.t 6)⟩,⟨some 2, none, .mv (.t 7)⟩])
 (.ret)))
theorem fn298 : F 298 = .go 8 [.t 2] v298 := by rw [F, fnOf, Tryz.func298]; kernel_rfl

def v299 : VC :=
 .seq (.reg [⟨some 0, none, .mv (.c (.sl none 0 0 true))⟩])
 (.seq (.reg [⟨some 1, none, .mv (.c (.sl none 0 0 true))⟩])
 (.seq (.seq (.reg [⟨some 7, none, .call 260 []⟩,⟨some 8, none, .len 1 (.t 7)⟩,⟨some 9, none, .mv (.c (.i .i64 0))⟩])
 (.blk 0 (.loop (.seq (.reg [⟨some 10, none, .bin .lss (.t 9) (.t 8)⟩])
 (.seq (.cond (.t 10) (.skip)
 (.exit 0))
 (.seq (.blk 1 (.seq (.reg [⟨some 11, none, .ia 4 (.t 7) (.t 9)⟩,⟨some 12, none, .ldn 4 (.t 11)⟩,⟨some 3, none, .alloc 351 [(.i .i64 0), (.i .i64 0), (.i .i64 0), (.i .i64 0)]⟩,⟨none, none, .st 4 (.t 3) (.t 12)⟩])
 (.seq (.reg [⟨some 13, none, .fa 0 (.t 3)⟩,⟨some 14, none, .ld (.t 13)⟩,⟨some 4, none, .mv (.t 14)⟩])
 (.blk 2 (.loop (.seq (.seq (.reg [⟨some 15, none, .mv (.t 4)⟩,⟨some 16, none, .fa 1 (.t 3)⟩,⟨some 17, none, .ld (.t 16)⟩,⟨some 18, none, .bin .leq (.t 15) (.t 17)⟩])
 (.cond (.t 18) (.skip)
 (.exit 2)))
 (.seq (.blk 3 (.reg [⟨some 23, none, .mv (.t 1)⟩,⟨some 24, none, .mv (.t 4)⟩,⟨some 25, none, .mv (.t 4)⟩,⟨some 26, none, .fa 3 (.t 3)⟩,⟨some 27, none, .ld (.t 26)⟩,⟨some 28, none, .bin .add (.t 25) (.t 27)⟩,⟨some 29, none, .bsl 1 2 [(.i .i64 0), (.i .i64 0)] [(0, 1, (.t 24)), (1, 1, (.t 28))]⟩,⟨some 30, none, .app ⟨1, (some 3)⟩ 8 (.t 23) (.t 29)⟩,⟨some 1, none, .mv (.t 30)⟩]))
 (.reg [⟨some 19, none, .mv (.t 4)⟩,⟨some 20, none, .fa 2 (.t 3)⟩,⟨some 21, none, .ld (.t 20)⟩,⟨some 22, none, .bin .add (.t 19) (.t 21)⟩,⟨some 4, none, .mv (.t 22)⟩]))))))))
 (.reg [⟨some 31, none, .bin .add (.t 9) (.c (.i .i64 1))⟩,⟨some 9, none, .mv (.t 31)⟩])))))))
 (.seq (.seq (.reg [⟨some 32, none, .call 262 []⟩,⟨some 33, none, .len 1 (.t 32)⟩,⟨some 34, none, .mv (.c (.i .i64 0))⟩])
 (.blk 4 (.loop (.seq (.reg [⟨some 35, none, .bin .lss (.t 34) (.t 33)⟩])
 (.seq (.cond (.t 35) (.skip)
 (.exit 4))
 (.seq (.blk 5 (.seq (.reg [⟨some 36, none, .ia 2 (.t 32) (.t 34)⟩,⟨some 37, none, .ldn 2 (.t 36)⟩,⟨some 6, none, .alloc 355 [(.i .i64 0), (.i .i64 0)]⟩,⟨none, none, .st 2 (.t 6) (.t 37)⟩])
 (.reg [⟨some 38, none, .mv (.t 1)⟩,⟨some 39, none, .fa 0 (.t 6)⟩,⟨some 40, none, .ld (.t 39)⟩,⟨some 41, none, .fa 1 (.t 6)⟩,⟨some 42, none, .ld (.t 41)⟩,⟨some 43, none, .bsl 1 2 [(.i .i64 0), (.i .i64 0)] [(0, 1, (.t 40)), (1, 1, (.t 42))]⟩,⟨some 44, none, .app ⟨1, (some 3)⟩ 8 (.t 38) (.t 43)⟩,⟨some 1, none, .mv (.t 44)⟩])))
 (.reg [⟨some 45, none, .bin .add (.t 34) (.c (.i .i64 1))⟩,⟨some 34, none, .mv (.t 45)⟩])))))))
 (.seq (.reg [⟨some 46, none, .mv (.t 1)⟩,⟨some 0, none, .mv (.t 46)⟩])
 (.ret)))))
theorem fn299 : F 299 = .go 47 [.t 0] v299 := by rw [F, fnOf, Tryz.func299]; kernel_rfl

def v300 : VC :=
 .seq (.reg [⟨some 4, none, .alloc 374 [(.i .i64 0), (.i .i64 0), (.i .i64 0), (.s ⟨#[]⟩), (.sl none 0 0 true)]⟩,⟨some 5, none, .mv (.c (.b false))⟩,⟨some 6, none, .mv (.c (.i .i64 0))⟩])
 (.seq (.reg [⟨some 15, none, .mv (.t 0)⟩,⟨some 16, none, .mv (.t 1)⟩,⟨some 17, none, .bin .add (.t 16) (.c (.i .i64 1))⟩,⟨some 18, none, .call 275 [(.t 15), (.t 17)]⟩,⟨some 7, none, .mv (.t 18)⟩])
 (.seq (.seq (.reg [⟨some 19, none, .mv (.t 7)⟩,⟨some 20, none, .bin .eql (.t 19) (.c (.i .u8 120))⟩])
 (.cond (.t 20) (.seq (.reg [⟨some 22, none, .mv (.t 0)⟩,⟨some 23, none, .mv (.t 1)⟩,⟨some 24, none, .bin .add (.t 23) (.c (.i .i64 2))⟩,⟨some 25, none, .call 314 [(.t 22), (.t 24)]⟩,⟨some 21, none, .mv (.t 25)⟩,⟨some 26, none, .ext (.t 21) 0⟩,⟨some 27, none, .ext (.t 21) 1⟩,⟨some 8, none, .alloc 374 [(.i .i64 0), (.i .i64 0), (.i .i64 0), (.s ⟨#[]⟩), (.sl none 0 0 true)]⟩,⟨none, none, .st 5 (.t 8) (.t 26)⟩,⟨some 9, none, .mv (.t 27)⟩])
 (.seq (.reg [⟨some 28, none, .ldn 5 (.t 8)⟩,⟨some 29, none, .mv (.t 9)⟩,⟨none, none, .st 5 (.t 4) (.t 28)⟩,⟨some 5, none, .mv (.c (.b true))⟩,⟨some 6, none, .mv (.t 29)⟩])
 (.ret)))
 (.skip)))
 (.seq (.seq (.reg [⟨some 30, none, .mv (.t 7)⟩,⟨some 31, none, .call 315 [(.t 30)]⟩,⟨some 10, none, .mv (.t 31)⟩])
 (.seq (.reg [⟨some 32, none, .mv (.t 10)⟩,⟨some 33, none, .bin .geq (.t 32) (.c (.i .i64 0))⟩])
 (.cond (.t 33) (.seq (.reg [⟨some 34, none, .mv (.t 10)⟩,⟨some 35, none, .mv (.t 1)⟩,⟨some 36, none, .bin .add (.t 35) (.c (.i .i64 2))⟩,⟨some 37, none, .build [(.i .i64 0), (.i .i64 0), (.i .i64 0), (.s ⟨#[]⟩), (.sl none 0 0 true)] [(0, 1, (.c (.i .i64 1))), (2, 1, (.t 34)), (1, 1, (.t 36))]⟩,⟨none, none, .st 5 (.t 4) (.t 37)⟩,⟨some 5, none, .mv (.c (.b true))⟩,⟨some 6, none, .mv (.c (.i .i64 0))⟩])
 (.ret))
 (.skip))))
 (.seq (.seq (.reg [⟨some 39, none, .mv (.t 7)⟩,⟨some 40, none, .call 316 [(.t 39)]⟩,⟨some 38, none, .mv (.t 40)⟩,⟨some 41, none, .ext (.t 38) 0⟩,⟨some 42, none, .ext (.t 38) 1⟩,⟨some 11, none, .mv (.t 41)⟩,⟨some 12, none, .mv (.t 42)⟩])
 (.seq (.reg [⟨some 43, none, .mv (.t 12)⟩])
 (.cond (.t 43) (.seq (.reg [⟨some 44, none, .mv (.t 11)⟩,⟨some 45, none, .mv (.t 1)⟩,⟨some 46, none, .bin .add (.t 45) (.c (.i .i64 2))⟩,⟨some 47, none, .build [(.i .i64 0), (.i .i64 0), (.i .i64 0), (.s ⟨#[]⟩), (.sl none 0 0 true)] [(0, 1, (.c (.i .i64 2))), (4, 1, (.t 44)), (1, 1, (.t 46))]⟩,⟨none, none, .st 5 (.t 4) (.t 47)⟩,⟨some 5, none, .mv (.c (.b true))⟩,⟨some 6, none, .mv (.c (.i .i64 0))⟩])
 (.ret))
 (.skip))))
 (.seq (.seq (.reg [⟨some 48, none, .mv (.t 7)⟩,⟨some 49, none, .call 317 [(.t 48)]⟩,⟨some 50, none, .mv (.t 49)⟩,⟨some 51, some (50, false), .mv (.t 7)⟩,⟨some 52, some (50, false), .call 302 [(.t 51)]⟩,⟨some 53, none, .pick (.t 50) (.c (.b true)) (.t 52)⟩])
 (.cond (.t 53) (.seq (.reg [⟨some 54, none, .build [(.i .i64 0), (.i .i64 0), (.i .i64 0), (.s ⟨#[]⟩), (.sl none 0 0 true)] []⟩,⟨none, none, .st 5 (.t 4) (.t 54)⟩,⟨some 5, none, .mv (.c (.b false))⟩,⟨some 6, none, .mv (.c (.i .i64 0))⟩])
 (.ret))
 (.skip)))
 (.seq (.reg [⟨some 56, none, .mv (.t 0)⟩,⟨some 57, none, .mv (.t 1)⟩,⟨some 58, none, .bin .add (.t 57) (.c (.i .i64 1))⟩,⟨some 59, none, .call 135 [(.t 56), (.t 58)]⟩,⟨some 55, none, .mv (.t 59)⟩,⟨some 60, none, .ext (.t 55) 0⟩,⟨some 61, none, .ext (.t 55) 1⟩,⟨some 13, none, .mv (.t 60)⟩,⟨some 14, none, .mv (.t 61)⟩])
 (.seq (.seq (.reg [⟨some 62, none, .mv (.t 14)⟩,⟨some 63, none, .bin .eql (.t 62) (.c (.i .i64 0))⟩])
 (.cond (.t 63) (.seq (.reg [⟨some 64, none, .build [(.i .i64 0), (.i .i64 0), (.i .i64 0), (.s ⟨#[]⟩), (.sl none 0 0 true)] []⟩,⟨none, none, .st 5 (.t 4) (.t 64)⟩,⟨some 5, none, .mv (.c (.b true))⟩,⟨some 6, none, .mv (.c (.i .i64 32))⟩])
 (.ret))
 (.skip)))
 (.seq (.reg [⟨some 65, none, .mv (.t 13)⟩,⟨some 66, none, .mv (.t 1)⟩,⟨some 67, none, .bin .add (.t 66) (.c (.i .i64 1))⟩,⟨some 68, none, .mv (.t 14)⟩,⟨some 69, none, .bin .add (.t 67) (.t 68)⟩,⟨some 70, none, .build [(.i .i64 0), (.i .i64 0), (.i .i64 0), (.s ⟨#[]⟩), (.sl none 0 0 true)] [(0, 1, (.c (.i .i64 1))), (2, 1, (.t 65)), (1, 1, (.t 69))]⟩,⟨none, none, .st 5 (.t 4) (.t 70)⟩,⟨some 5, none, .mv (.c (.b true))⟩,⟨some 6, none, .mv (.c (.i .i64 0))⟩])
 (.ret)))))))))
theorem fn300 : F 300 = .go 71 [.c 4 (some 5), .t 5, .t 6] v300 := by rw [F, fnOf, Tryz.func300]; kernel_rfl

def v301 : VC :=
 .seq (.reg [⟨some 2, none, .mv (.c (.i .i64 0))⟩])
 (.seq (.seq (.reg [⟨some 3, none, .mv (.t 0)⟩])
 (.blk 0 (.seq (.reg [⟨some 5, none, .bin .eql (.t 3) (.c (.i .u8 65))⟩,⟨some 4, none, .mv (.t 5)⟩])
 (.cond (.t 4) (.seq (.reg [⟨some 2, none, .mv (.c (.i .i64 1))⟩])
 (.ret))
 (.seq (.reg [⟨some 7, none, .bin .eql (.t 3) (.c (.i .u8 90))⟩,⟨some 6, none, .mv (.t 7)⟩])
 (.cond (.t 6) (.seq (.reg [⟨some 2, none, .mv (.c (.i .i64 2))⟩])
 (.ret))
 (.seq (.reg [⟨some 9, none, .bin .eql (.t 3) (.c (.i .u8 122))⟩,⟨some 8, none, .mv (.t 9)⟩])
 (.cond (.t 8) (.seq (.reg [⟨some 2, none, .mv (.c (.i .i64 3))⟩])
 (.ret))
 (.seq (.reg [⟨some 11, none, .bin .eql (.t 3) (.c (.i .u8 98))⟩,⟨some 10, none, .mv (.t 11)⟩])
 (.cond (.t 10) (.seq (.reg [⟨some 2, none, .mv (.c (.i .i64 6))⟩])
 (.ret))
 (.seq (.reg [⟨some 13, none, .bin .eql (.t 3) (.c (.i .u8 66))⟩,⟨some 12, none, .mv (.t 13)⟩])
 (.cond (.t 12) (.seq (.reg [⟨some 2, none, .mv (.c (.i .i64 7))⟩])
 (.ret))
 (.skip)))))))))))))
 (.seq (.reg [⟨some 2, none, .mv (.c (.i .i64 0))⟩])
 (.ret)))
theorem fn301 : F 301 = .go 14 [.t 2] v301 := by rw [F, fnOf, Tryz.func301]; kernel_rfl

def v302 : VC :=
 .seq (.reg [⟨some 2, none, .mv (.c (.b false))⟩])
 (.seq (.reg [⟨some 3, none, .mv (.t 0)⟩,⟨some 4, none, .bin .geq (.t 3) (.c (.i .u8 48))⟩,⟨some 5, none, .mv (.t 4)⟩,⟨some 6, some (5, true), .mv (.t 0)⟩,⟨some 7, some (5, true), .bin .leq (.t 6) (.c (.i .u8 57))⟩,⟨some 8, none, .pick (.t 5) (.t 7) (.c (.b false))⟩,⟨some 2, none, .mv (.t 8)⟩])
 (.ret))
theorem fn302 : F 302 = .go 9 [.t 2] v302 := by rw [F, fnOf, Tryz.func302]; kernel_rfl

def v303 : VC :=
 .seq (.reg [⟨some 4, none, .mv (.c (.s ⟨#[]⟩))⟩,⟨some 5, none, .mv (.c (.i .i64 0))⟩,⟨some 6, none, .mv (.c (.i .i64 0))⟩])
 (.seq (.reg [⟨some 9, none, .mv (.t 1)⟩,⟨some 10, none, .mx [(.t 9), (.c (.i .i64 0))]⟩,⟨some 7, none, .mv (.t 10)⟩])
 (.seq (.seq (.reg [⟨some 11, none, .mv (.t 0)⟩,⟨some 12, none, .mv (.t 7)⟩,⟨some 13, none, .call 275 [(.t 11), (.t 12)]⟩,⟨some 8, none, .mv (.t 13)⟩])
 (.blk 0 (.loop (.seq (.seq (.reg [⟨some 14, none, .mv (.t 8)⟩,⟨some 15, none, .call 317 [(.t 14)]⟩,⟨some 16, none, .mv (.t 15)⟩,⟨some 17, some (16, false), .mv (.t 8)⟩,⟨some 18, some (16, false), .bin .eql (.t 17) (.c (.i .u8 95))⟩,⟨some 19, none, .pick (.t 16) (.c (.b true)) (.t 18)⟩,⟨some 20, none, .mv (.t 19)⟩,⟨some 21, some (20, false), .mv (.t 8)⟩,⟨some 22, some (20, false), .call 302 [(.t 21)]⟩,⟨some 23, some (20, false), .mv (.t 22)⟩,⟨some 24, some (23, true), .mv (.t 7)⟩,⟨some 25, some (23, true), .mv (.t 1)⟩,⟨some 26, some (23, true), .bin .gtr (.t 24) (.t 25)⟩,⟨some 27, some (20, false), .pick (.t 23) (.t 26) (.c (.b false))⟩,⟨some 28, none, .pick (.t 20) (.c (.b true)) (.t 27)⟩])
 (.cond (.t 28) (.skip)
 (.exit 0)))
 (.seq (.blk 1 (.reg [⟨some 32, none, .mv (.t 7)⟩,⟨some 33, none, .bin .add (.t 32) (.c (.i .i64 1))⟩,⟨some 7, none, .mv (.t 33)⟩]))
 (.reg [⟨some 29, none, .mv (.t 0)⟩,⟨some 30, none, .mv (.t 7)⟩,⟨some 31, none, .call 275 [(.t 29), (.t 30)]⟩,⟨some 8, none, .mv (.t 31)⟩]))))))
 (.seq (.seq (.reg [⟨some 34, none, .mv (.t 1)⟩,⟨some 35, none, .bin .lss (.t 34) (.c (.i .i64 0))⟩,⟨some 36, none, .mv (.t 35)⟩,⟨some 37, some (36, false), .mv (.t 7)⟩,⟨some 38, some (36, false), .mv (.t 1)⟩,⟨some 39, some (36, false), .bin .eql (.t 37) (.t 38)⟩,⟨some 40, none, .pick (.t 36) (.c (.b true)) (.t 39)⟩,⟨some 41, none, .mv (.t 40)⟩,⟨some 42, some (41, false), .mv (.t 7)⟩,⟨some 43, some (41, false), .mv (.t 1)⟩,⟨some 44, some (41, false), .bin .sub (.t 42) (.t 43)⟩,⟨some 45, some (41, false), .bin .gtr (.t 44) (.c (.i .i64 32))⟩,⟨some 46, none, .pick (.t 41) (.c (.b true)) (.t 45)⟩,⟨some 47, none, .mv (.t 46)⟩,⟨some 48, some (47, false), .mv (.t 0)⟩,⟨some 49, some (47, false), .mv (.t 7)⟩,⟨some 50, some (47, false), .call 275 [(.t 48), (.t 49)]⟩,⟨some 51, some (47, false), .bin .neq (.t 50) (.c (.i .u8 62))⟩,⟨some 52, none, .pick (.t 47) (.c (.b true)) (.t 51)⟩])
 (.cond (.t 52) (.seq (.reg [⟨some 4, none, .mv (.c (.s ⟨#[]⟩))⟩,⟨some 5, none, .mv (.c (.i .i64 0))⟩,⟨some 6, none, .mv (.c (.i .i64 36))⟩])
 (.ret))
 (.skip)))
 (.seq (.reg [⟨some 53, none, .mv (.t 0)⟩,⟨some 54, none, .mv (.t 1)⟩,⟨some 55, none, .mv (.t 7)⟩,⟨some 56, none, .slc 1 (.t 53) (some (.t 54)) (some (.t 55)) none⟩,⟨some 57, none, .cvs (.t 56)⟩,⟨some 58, none, .mv (.t 7)⟩,⟨some 59, none, .bin .add (.t 58) (.c (.i .i64 1))⟩,⟨some 4, none, .mv (.t 57)⟩,⟨some 5, none, .mv (.t 59)⟩,⟨some 6, none, .mv (.c (.i .i64 0))⟩])
 (.ret)))))
theorem fn303 : F 303 = .go 60 [.t 4, .t 5, .t 6] v303 := by rw [F, fnOf, Tryz.func303]; kernel_rfl

def v304 : VC :=
 .seq (.reg [⟨some 4, none, .mv (.c (.i .i64 0))⟩,⟨some 5, none, .mv (.c (.i .i64 0))⟩])
 (.seq (.reg [⟨some 6, none, .mv (.c (.i .i64 0))⟩])
 (.seq (.blk 0 (.loop (.seq (.seq (.reg [⟨some 7, none, .mv (.t 0)⟩,⟨some 8, none, .mv (.t 1)⟩,⟨some 9, none, .call 275 [(.t 7), (.t 8)]⟩,⟨some 10, none, .call 302 [(.t 9)]⟩])
 (.cond (.t 10) (.skip)
 (.exit 0)))
 (.seq (.blk 1 (.reg [⟨some 13, none, .mv (.t 6)⟩,⟨some 14, none, .bin .mul (.t 13) (.c (.i .i64 10))⟩,⟨some 15, none, .mv (.t 0)⟩,⟨some 16, none, .mv (.t 1)⟩,⟨some 17, none, .ia 1 (.t 15) (.t 16)⟩,⟨some 18, none, .ld (.t 17)⟩,⟨some 19, none, .bin .sub (.t 18) (.c (.i .u8 48))⟩,⟨some 20, none, .cvi .i64 (.t 19)⟩,⟨some 21, none, .bin .add (.t 14) (.t 20)⟩,⟨some 22, none, .mn [(.t 21), (.c (.i .i64 1001))]⟩,⟨some 6, none, .mv (.t 22)⟩]))
 (.reg [⟨some 11, none, .mv (.t 1)⟩,⟨some 12, none, .bin .add (.t 11) (.c (.i .i64 1))⟩,⟨some 1, none, .mv (.t 12)⟩])))))
 (.seq (.reg [⟨some 23, none, .mv (.t 6)⟩,⟨some 24, none, .mv (.t 1)⟩,⟨some 4, none, .mv (.t 23)⟩,⟨some 5, none, .mv (.t 24)⟩])
 (.ret))))
theorem fn304 : F 304 = .go 25 [.t 4, .t 5] v304 := by rw [F, fnOf, Tryz.func304]; kernel_rfl

def v305 : VC :=
 .seq (.reg [⟨some 10, none, .mv (.t 1)⟩,⟨some 8, none, .mv (.t 10)⟩])
 (.blk 0 (.loop (.blk 1 (.seq (.reg [⟨some 11, none, .mv (.t 8)⟩,⟨some 12, none, .bin .mul (.c (.i .i64 2)) (.t 11)⟩,⟨some 13, none, .bin .add (.t 12) (.c (.i .i64 1))⟩,⟨some 9, none, .mv (.t 13)⟩])
 (.seq (.seq (.reg [⟨some 14, none, .mv (.t 9)⟩,⟨some 15, none, .mv (.t 2)⟩,⟨some 16, none, .bin .geq (.t 14) (.t 15)⟩])
 (.cond (.t 16) (.exit 0)
 (.skip)))
 (.seq (.seq (.regd [⟨some 17, none, .mv (.t 9)⟩,⟨some 18, none, .bin .add (.t 17) (.c (.i .i64 1))⟩,⟨some 19, none, .mv (.t 2)⟩,⟨some 20, none, .bin .lss (.t 18) (.t 19)⟩,⟨some 21, none, .mv (.t 20)⟩,⟨some 22, some (21, true), .mv (.t 0)⟩,⟨some 23, some (21, true), .mv (.t 3)⟩,⟨some 24, some (21, true), .mv (.t 9)⟩,⟨some 25, some (21, true), .bin .add (.t 23) (.t 24)⟩,⟨some 26, some (21, true), .ia 1 (.t 22) (.t 25)⟩,⟨some 27, some (21, true), .ld (.t 26)⟩,⟨some 28, some (21, true), .mv (.t 0)⟩,⟨some 29, some (21, true), .mv (.t 3)⟩,⟨some 30, some (21, true), .mv (.t 9)⟩,⟨some 31, some (21, true), .bin .add (.t 29) (.t 30)⟩,⟨some 32, some (21, true), .bin .add (.t 31) (.c (.i .i64 1))⟩,⟨some 33, some (21, true), .ia 1 (.t 28) (.t 32)⟩,⟨some 34, some (21, true), .ld (.t 33)⟩,⟨some 35, some (21, true), .call 289 [(.t 27), (.t 34)]⟩,⟨some 36, none, .pick (.t 21) (.t 35) (.c (.b false))⟩] [])
 (.cond (.t 36) (.reg [⟨some 37, none, .mv (.t 9)⟩,⟨some 38, none, .bin .add (.t 37) (.c (.i .i64 1))⟩,⟨some 9, none, .mv (.t 38)⟩])
 (.skip)))
 (.seq (.seq (.regd [⟨some 39, none, .mv (.t 0)⟩,⟨some 40, none, .mv (.t 3)⟩,⟨some 41, none, .mv (.t 8)⟩,⟨some 42, none, .bin .add (.t 40) (.t 41)⟩,⟨some 43, none, .ia 1 (.t 39) (.t 42)⟩,⟨some 44, none, .ld (.t 43)⟩,⟨some 45, none, .mv (.t 0)⟩,⟨some 46, none, .mv (.t 3)⟩,⟨some 47, none, .mv (.t 9)⟩,⟨some 48, none, .bin .add (.t 46) (.t 47)⟩,⟨some 49, none, .ia 1 (.t 45) (.t 48)⟩,⟨some 50, none, .ld (.t 49)⟩,⟨some 51, none, .call 289 [(.t 44), (.t 50)]⟩,⟨some 52, none, .un .not (.t 51)⟩] [])
 (.cond (.t 52) (.ret)
 (.skip)))
 (.seq (.regd [⟨some 53, none, .mv (.t 0)⟩,⟨some 54, none, .mv (.t 3)⟩,⟨some 55, none, .mv (.t 8)⟩,⟨some 56, none, .bin .add (.t 54) (.t 55)⟩,⟨some 57, none, .mv (.t 0)⟩,⟨some 58, none, .mv (.t 3)⟩,⟨some 59, none, .mv (.t 9)⟩,⟨some 60, none, .bin .add (.t 58) (.t 59)⟩,⟨some 61, none, .mv (.t 0)⟩,⟨some 62, none, .mv (.t 3)⟩,⟨some 63, none, .mv (.t 9)⟩,⟨some 64, none, .bin .add (.t 62) (.t 63)⟩,⟨some 65, none, .ia 1 (.t 61) (.t 64)⟩,⟨some 66, none, .ld (.t 65)⟩,⟨some 67, none, .mv (.t 0)⟩,⟨some 68, none, .mv (.t 3)⟩,⟨some 69, none, .mv (.t 8)⟩,⟨some 70, none, .bin .add (.t 68) (.t 69)⟩,⟨some 71, none, .ia 1 (.t 67) (.t 70)⟩,⟨some 72, none, .ld (.t 71)⟩,⟨some 73, none, .ia 1 (.t 53) (.t 56)⟩,⟨none, none, .st 1 (.t 73) (.t 66)⟩,⟨some 74, none, .ia 1 (.t 57) (.t 60)⟩,⟨none, none, .st 1 (.t 74) (.t 72)⟩] [])
 (.reg [⟨some 75, none, .mv (.t 9)⟩,⟨some 8, none, .mv (.t 75)⟩])))))))))
theorem fn305 : F 305 = .go 76 [] v305 := by rw [F, fnOf, Tryz.func305]; kernel_rfl

def v306 : VC :=
 .seq (.reg [⟨some 6, none, .mv (.c (.i .i64 0))⟩])
 (.seq (.reg [⟨some 7, none, .mv (.t 0)⟩,⟨some 8, none, .mv (.t 1)⟩,⟨some 9, none, .bin .sub (.t 8) (.c (.i .i64 1))⟩,⟨some 10, none, .mv (.t 1)⟩,⟨some 11, none, .mv (.t 1)⟩,⟨some 12, none, .bin .add (.t 11) (.c (.i .i64 1))⟩,⟨some 13, none, .mv (.t 2)⟩,⟨some 14, none, .call 307 [(.t 7), (.t 9), (.t 10), (.t 12), (.t 13)]⟩,⟨some 6, none, .mv (.t 14)⟩])
 (.ret))
theorem fn306 : F 306 = .go 15 [.t 6] v306 := by rw [F, fnOf, Tryz.func306]; kernel_rfl

def v307 : VC :=
 .seq (.reg [⟨some 10, none, .mv (.c (.i .i64 0))⟩])
 (.seq (.reg [⟨some 12, none, .mv (.t 0)⟩,⟨some 13, none, .mv (.t 1)⟩,⟨some 14, none, .mv (.t 2)⟩,⟨some 15, none, .mv (.t 4)⟩,⟨some 16, none, .call 318 [(.t 12), (.t 13), (.t 14), (.t 15)]⟩,⟨some 11, none, .mv (.t 16)⟩,⟨some 17, none, .ext (.t 11) 0⟩,⟨some 18, none, .ext (.t 11) 1⟩,⟨some 1, none, .mv (.t 17)⟩,⟨some 2, none, .mv (.t 18)⟩])
 (.seq (.reg [⟨some 20, none, .mv (.t 0)⟩,⟨some 21, none, .mv (.t 2)⟩,⟨some 22, none, .mv (.t 3)⟩,⟨some 23, none, .mv (.t 4)⟩,⟨some 24, none, .call 318 [(.t 20), (.t 21), (.t 22), (.t 23)]⟩,⟨some 19, none, .mv (.t 24)⟩,⟨some 25, none, .ext (.t 19) 0⟩,⟨some 26, none, .ext (.t 19) 1⟩,⟨some 2, none, .mv (.t 25)⟩,⟨some 3, none, .mv (.t 26)⟩])
 (.seq (.reg [⟨some 28, none, .mv (.t 0)⟩,⟨some 29, none, .mv (.t 1)⟩,⟨some 30, none, .mv (.t 2)⟩,⟨some 31, none, .mv (.t 4)⟩,⟨some 32, none, .call 318 [(.t 28), (.t 29), (.t 30), (.t 31)]⟩,⟨some 27, none, .mv (.t 32)⟩,⟨some 33, none, .ext (.t 27) 0⟩,⟨some 34, none, .ext (.t 27) 1⟩,⟨some 1, none, .mv (.t 33)⟩,⟨some 2, none, .mv (.t 34)⟩])
 (.seq (.reg [⟨some 35, none, .mv (.t 2)⟩,⟨some 10, none, .mv (.t 35)⟩])
 (.ret)))))
theorem fn307 : F 307 = .go 36 [.t 10] v307 := by rw [F, fnOf, Tryz.func307]; kernel_rfl

def v308 : VC :=
 .seq (.reg [⟨some 4, none, .mv (.c (.i .i64 0))⟩])
 (.seq (.seq (.reg [⟨some 6, none, .mv (.t 0)⟩,⟨some 7, none, .len 1 (.t 6)⟩,⟨some 8, none, .mv (.c (.i .i64 0))⟩])
 (.blk 0 (.loop (.seq (.reg [⟨some 9, none, .bin .lss (.t 8) (.t 7)⟩])
 (.seq (.cond (.t 9) (.skip)
 (.exit 0))
 (.seq (.blk 1 (.seq (.reg [⟨some 10, none, .mv (.t 8)⟩,⟨some 5, none, .mv (.t 10)⟩])
 (.seq (.reg [⟨some 11, none, .mv (.t 1)⟩,⟨some 12, none, .mv (.t 0)⟩,⟨some 13, none, .mv (.t 5)⟩,⟨some 14, none, .ia 1 (.t 12) (.t 13)⟩,⟨some 15, none, .ld (.t 14)⟩,⟨some 16, none, .bin .eql (.t 11) (.t 15)⟩])
 (.cond (.t 16) (.seq (.reg [⟨some 17, none, .mv (.t 5)⟩,⟨some 4, none, .mv (.t 17)⟩])
 (.ret))
 (.skip)))))
 (.reg [⟨some 18, none, .bin .add (.t 8) (.c (.i .i64 1))⟩,⟨some 8, none, .mv (.t 18)⟩])))))))
 (.seq (.reg [⟨some 4, none, .mv (.c (.i .i64 (-1)))⟩])
 (.ret)))
theorem fn308 : F 308 = .go 19 [.t 4] v308 := by rw [F, fnOf, Tryz.func308]; kernel_rfl

def v309 : VC :=
 .seq (.reg [⟨some 4, none, .mv (.c (.b false))⟩])
 (.seq (.reg [⟨some 5, none, .mv (.t 0)⟩,⟨some 6, none, .mv (.t 1)⟩,⟨some 7, none, .call 166 [(.t 5), (.t 6)]⟩,⟨some 8, none, .bin .geq (.t 7) (.c (.i .i64 0))⟩,⟨some 4, none, .mv (.t 8)⟩])
 (.ret))
theorem fn309 : F 309 = .go 9 [.t 4] v309 := by rw [F, fnOf, Tryz.func309]; kernel_rfl

def v310 : VC :=
 .seq (.reg [⟨some 6, none, .mv (.c (.b false))⟩])
 (.seq (.seq (.reg [⟨some 7, none, .mv (.t 1)⟩])
 (.blk 0 (.seq (.reg [⟨some 9, none, .bin .eql (.t 7) (.c (.i .u8 105))⟩,⟨some 8, none, .mv (.t 9)⟩])
 (.cond (.t 8) (.reg [⟨some 10, none, .mv (.t 0)⟩,⟨some 11, none, .mv (.t 2)⟩,⟨some 12, none, .nc (.t 10)⟩,⟨some 13, none, .fa 0 (.t 12)⟩,⟨none, none, .st 1 (.t 13) (.t 11)⟩])
 (.seq (.reg [⟨some 15, none, .bin .eql (.t 7) (.c (.i .u8 109))⟩,⟨some 14, none, .mv (.t 15)⟩])
 (.cond (.t 14) (.reg [⟨some 16, none, .mv (.t 0)⟩,⟨some 17, none, .mv (.t 2)⟩,⟨some 18, none, .nc (.t 16)⟩,⟨some 19, none, .fa 1 (.t 18)⟩,⟨none, none, .st 1 (.t 19) (.t 17)⟩])
 (.seq (.reg [⟨some 21, none, .bin .eql (.t 7) (.c (.i .u8 115))⟩,⟨some 20, none, .mv (.t 21)⟩])
 (.cond (.t 20) (.reg [⟨some 22, none, .mv (.t 0)⟩,⟨some 23, none, .mv (.t 2)⟩,⟨some 24, none, .nc (.t 22)⟩,⟨some 25, none, .fa 2 (.t 24)⟩,⟨none, none, .st 1 (.t 25) (.t 23)⟩])
 (.seq (.reg [⟨some 27, none, .bin .eql (.t 7) (.c (.i .u8 120))⟩,⟨some 26, none, .mv (.t 27)⟩])
 (.cond (.t 26) (.reg [⟨some 28, none, .mv (.t 0)⟩,⟨some 29, none, .mv (.t 2)⟩,⟨some 30, none, .nc (.t 28)⟩,⟨some 31, none, .fa 3 (.t 30)⟩,⟨none, none, .st 1 (.t 31) (.t 29)⟩])
 (.seq (.reg [⟨some 6, none, .mv (.c (.b false))⟩])
 (.ret))))))))))))
 (.seq (.reg [⟨some 6, none, .mv (.c (.b true))⟩])
 (.ret)))
theorem fn310 : F 310 = .go 32 [.t 6] v310 := by rw [F, fnOf, Tryz.func310]; kernel_rfl

def v311 : VC :=
 .seq (.reg [⟨some 4, none, .mv (.c (.b false))⟩])
 (.seq (.reg [⟨some 5, none, .mv (.t 0)⟩,⟨some 6, none, .mv (.t 1)⟩,⟨some 7, none, .call 319 [(.t 5), (.t 6)]⟩,⟨some 4, none, .mv (.t 7)⟩])
 (.ret))
theorem fn311 : F 311 = .go 8 [.t 4] v311 := by rw [F, fnOf, Tryz.func311]; kernel_rfl

def v312 : VC :=
 .seq (.reg [⟨some 4, none, .alloc 374 [(.i .i64 0), (.i .i64 0), (.i .i64 0), (.s ⟨#[]⟩), (.sl none 0 0 true)]⟩,⟨some 5, none, .mv (.c (.i .i64 0))⟩])
 (.seq (.reg [⟨some 14, none, .mv (.t 0)⟩,⟨some 15, none, .mv (.t 1)⟩,⟨some 16, none, .bin .add (.t 15) (.c (.i .i64 2))⟩,⟨some 17, none, .slc 1 (.t 14) (some (.t 16)) none none⟩,⟨some 18, none, .cvs (.t 17)⟩,⟨some 6, none, .mv (.t 18)⟩])
 (.seq (.reg [⟨some 20, none, .mv (.t 6)⟩,⟨some 21, none, .call 320 [(.t 20), (.c (.s ⟨#[58, 93]⟩))]⟩,⟨some 19, none, .mv (.t 21)⟩,⟨some 22, none, .ext (.t 19) 0⟩,⟨some 23, none, .ext (.t 19) 1⟩,⟨some 24, none, .ext (.t 19) 2⟩,⟨some 7, none, .mv (.t 22)⟩,⟨some 8, none, .mv (.t 23)⟩,⟨some 9, none, .mv (.t 24)⟩])
 (.seq (.reg [⟨some 26, none, .mv (.t 7)⟩,⟨some 27, none, .call 321 [(.t 26), (.c (.s ⟨#[94]⟩))]⟩,⟨some 25, none, .mv (.t 27)⟩,⟨some 28, none, .ext (.t 25) 0⟩,⟨some 29, none, .ext (.t 25) 1⟩,⟨some 10, none, .mv (.t 28)⟩,⟨some 11, none, .mv (.t 29)⟩])
 (.seq (.reg [⟨some 31, none, .mv (.t 10)⟩,⟨some 32, none, .call 241 [(.t 31)]⟩,⟨some 30, none, .mv (.t 32)⟩,⟨some 33, none, .ext (.t 30) 0⟩,⟨some 34, none, .ext (.t 30) 1⟩,⟨some 12, none, .mv (.t 33)⟩,⟨some 13, none, .mv (.t 34)⟩])
 (.seq (.seq (.reg [⟨some 35, none, .mv (.t 9)⟩,⟨some 36, none, .un .not (.t 35)⟩,⟨some 37, none, .mv (.t 36)⟩,⟨some 38, some (37, false), .mv (.t 13)⟩,⟨some 39, some (37, false), .un .not (.t 38)⟩,⟨some 40, none, .pick (.t 37) (.c (.b true)) (.t 39)⟩])
 (.cond (.t 40) (.seq (.reg [⟨some 41, none, .build [(.i .i64 0), (.i .i64 0), (.i .i64 0), (.s ⟨#[]⟩), (.sl none 0 0 true)] []⟩,⟨none, none, .st 5 (.t 4) (.t 41)⟩,⟨some 5, none, .mv (.c (.i .i64 33))⟩])
 (.ret))
 (.skip)))
 (.seq (.seq (.reg [⟨some 42, none, .mv (.t 11)⟩])
 (.cond (.t 42) (.reg [⟨some 43, none, .mv (.t 12)⟩,⟨some 44, none, .call 280 [(.t 43)]⟩,⟨some 12, none, .mv (.t 44)⟩])
 (.skip)))
 (.seq (.reg [⟨some 45, none, .mv (.t 12)⟩,⟨some 46, none, .mv (.t 1)⟩,⟨some 47, none, .bin .add (.t 46) (.c (.i .i64 2))⟩,⟨some 48, none, .mv (.t 7)⟩,⟨some 49, none, .len 0 (.t 48)⟩,⟨some 50, none, .bin .add (.t 47) (.t 49)⟩,⟨some 51, none, .bin .add (.t 50) (.c (.i .i64 2))⟩,⟨some 52, none, .build [(.i .i64 0), (.i .i64 0), (.i .i64 0), (.s ⟨#[]⟩), (.sl none 0 0 true)] [(0, 1, (.c (.i .i64 2))), (4, 1, (.t 45)), (1, 1, (.t 51))]⟩,⟨none, none, .st 5 (.t 4) (.t 52)⟩,⟨some 5, none, .mv (.c (.i .i64 0))⟩])
 (.ret))))))))
theorem fn312 : F 312 = .go 53 [.c 4 (some 5), .t 5] v312 := by rw [F, fnOf, Tryz.func312]; kernel_rfl

def v313 : VC :=
 .seq (.reg [⟨some 4, none, .alloc 374 [(.i .i64 0), (.i .i64 0), (.i .i64 0), (.s ⟨#[]⟩), (.sl none 0 0 true)]⟩,⟨some 5, none, .mv (.c (.i .i64 0))⟩])
 (.seq (.seq (.reg [⟨some 9, none, .mv (.t 0)⟩,⟨some 10, none, .mv (.t 1)⟩,⟨some 11, none, .call 275 [(.t 9), (.t 10)]⟩,⟨some 12, none, .bin .neq (.t 11) (.c (.i .u8 92))⟩])
 (.cond (.t 12) (.seq (.reg [⟨some 13, none, .build [(.i .i64 0), (.i .i64 0), (.i .i64 0), (.s ⟨#[]⟩), (.sl none 0 0 true)] []⟩,⟨none, none, .st 5 (.t 4) (.t 13)⟩,⟨some 5, none, .mv (.c (.i .i64 10))⟩])
 (.ret))
 (.skip)))
 (.seq (.reg [⟨some 15, none, .mv (.t 0)⟩,⟨some 16, none, .mv (.t 1)⟩,⟨some 17, none, .call 300 [(.t 15), (.t 16)]⟩,⟨some 14, none, .mv (.t 17)⟩,⟨some 18, none, .ext (.t 14) 0⟩,⟨some 19, none, .ext (.t 14) 1⟩,⟨some 20, none, .ext (.t 14) 2⟩,⟨some 6, none, .alloc 374 [(.i .i64 0), (.i .i64 0), (.i .i64 0), (.s ⟨#[]⟩), (.sl none 0 0 true)]⟩,⟨none, none, .st 5 (.t 6) (.t 18)⟩,⟨some 7, none, .mv (.t 19)⟩,⟨some 8, none, .mv (.t 20)⟩])
 (.seq (.blk 0 (.seq (.reg [⟨some 22, none, .mv (.t 7)⟩,⟨some 21, none, .mv (.t 22)⟩])
 (.cond (.t 21) (.seq (.reg [⟨some 23, none, .ldn 5 (.t 6)⟩,⟨some 24, none, .mv (.t 8)⟩,⟨none, none, .st 5 (.t 4) (.t 23)⟩,⟨some 5, none, .mv (.t 24)⟩])
 (.ret))
 (.seq (.reg [⟨some 26, none, .mv (.t 0)⟩,⟨some 27, none, .mv (.t 1)⟩,⟨some 28, none, .bin .add (.t 27) (.c (.i .i64 1))⟩,⟨some 29, none, .call 275 [(.t 26), (.t 28)]⟩,⟨some 30, none, .bin .eql (.t 29) (.c (.i .u8 98))⟩,⟨some 25, none, .mv (.t 30)⟩])
 (.cond (.t 25) (.seq (.reg [⟨some 31, none, .mv (.t 1)⟩,⟨some 32, none, .bin .add (.t 31) (.c (.i .i64 2))⟩,⟨some 33, none, .build [(.i .i64 0), (.i .i64 0), (.i .i64 0), (.s ⟨#[]⟩), (.sl none 0 0 true)] [(0, 1, (.c (.i .i64 1))), (2, 1, (.c (.i .i64 8))), (1, 1, (.t 32))]⟩,⟨none, none, .st 5 (.t 4) (.t 33)⟩,⟨some 5, none, .mv (.c (.i .i64 0))⟩])
 (.ret))
 (.skip))))))
 (.seq (.reg [⟨some 34, none, .build [(.i .i64 0), (.i .i64 0), (.i .i64 0), (.s ⟨#[]⟩), (.sl none 0 0 true)] []⟩,⟨none, none, .st 5 (.t 4) (.t 34)⟩,⟨some 5, none, .mv (.c (.i .i64 32))⟩])
 (.ret)))))
theorem fn313 : F 313 = .go 35 [.c 4 (some 5), .t 5] v313 := by rw [F, fnOf, Tryz.func313]; kernel_rfl

def v314 : VC :=
 .seq (.reg [⟨some 4, none, .alloc 374 [(.i .i64 0), (.i .i64 0), (.i .i64 0), (.s ⟨#[]⟩), (.sl none 0 0 true)]⟩,⟨some 5, none, .mv (.c (.i .i64 0))⟩])
 (.seq (.seq (.reg [⟨some 10, none, .mv (.t 0)⟩,⟨some 11, none, .mv (.t 1)⟩,⟨some 12, none, .call 275 [(.t 10), (.t 11)]⟩,⟨some 13, none, .bin .eql (.t 12) (.c (.i .u8 123))⟩])
 (.cond (.t 13) (.seq (.reg [⟨some 15, none, .mv (.t 0)⟩,⟨some 16, none, .mv (.t 1)⟩,⟨some 17, none, .bin .add (.t 16) (.c (.i .i64 1))⟩,⟨some 18, none, .call 322 [(.t 15), (.t 17), (.c (.i .i64 6))]⟩,⟨some 14, none, .mv (.t 18)⟩,⟨some 19, none, .ext (.t 14) 0⟩,⟨some 20, none, .ext (.t 14) 1⟩,⟨some 6, none, .mv (.t 19)⟩,⟨some 7, none, .mv (.t 20)⟩])
 (.seq (.seq (.reg [⟨some 21, none, .mv (.t 7)⟩,⟨some 22, none, .bin .eql (.t 21) (.c (.i .i64 0))⟩,⟨some 23, none, .mv (.t 22)⟩,⟨some 24, some (23, false), .mv (.t 0)⟩,⟨some 25, some (23, false), .mv (.t 1)⟩,⟨some 26, some (23, false), .bin .add (.t 25) (.c (.i .i64 1))⟩,⟨some 27, some (23, false), .mv (.t 7)⟩,⟨some 28, some (23, false), .bin .add (.t 26) (.t 27)⟩,⟨some 29, some (23, false), .call 275 [(.t 24), (.t 28)]⟩,⟨some 30, some (23, false), .bin .neq (.t 29) (.c (.i .u8 125))⟩,⟨some 31, none, .pick (.t 23) (.c (.b true)) (.t 30)⟩,⟨some 32, none, .mv (.t 31)⟩,⟨some 33, some (32, false), .mv (.t 6)⟩,⟨some 34, some (32, false), .call 323 [(.t 33)]⟩,⟨some 35, some (32, false), .un .not (.t 34)⟩,⟨some 36, none, .pick (.t 32) (.c (.b true)) (.t 35)⟩])
 (.cond (.t 36) (.seq (.reg [⟨some 37, none, .build [(.i .i64 0), (.i .i64 0), (.i .i64 0), (.s ⟨#[]⟩), (.sl none 0 0 true)] []⟩,⟨none, none, .st 5 (.t 4) (.t 37)⟩,⟨some 5, none, .mv (.c (.i .i64 32))⟩])
 (.ret))
 (.skip)))
 (.seq (.reg [⟨some 38, none, .mv (.t 6)⟩,⟨some 39, none, .mv (.t 1)⟩,⟨some 40, none, .mv (.t 7)⟩,⟨some 41, none, .bin .add (.t 39) (.t 40)⟩,⟨some 42, none, .bin .add (.t 41) (.c (.i .i64 2))⟩,⟨some 43, none, .build [(.i .i64 0), (.i .i64 0), (.i .i64 0), (.s ⟨#[]⟩), (.sl none 0 0 true)] [(0, 1, (.c (.i .i64 1))), (2, 1, (.t 38)), (1, 1, (.t 42))]⟩,⟨none, none, .st 5 (.t 4) (.t 43)⟩,⟨some 5, none, .mv (.c (.i .i64 0))⟩])
 (.ret))))
 (.skip)))
 (.seq (.reg [⟨some 45, none, .mv (.t 0)⟩,⟨some 46, none, .mv (.t 1)⟩,⟨some 47, none, .call 322 [(.t 45), (.t 46), (.c (.i .i64 2))]⟩,⟨some 44, none, .mv (.t 47)⟩,⟨some 48, none, .ext (.t 44) 0⟩,⟨some 49, none, .ext (.t 44) 1⟩,⟨some 8, none, .mv (.t 48)⟩,⟨some 9, none, .mv (.t 49)⟩])
 (.seq (.seq (.reg [⟨some 50, none, .mv (.t 9)⟩,⟨some 51, none, .bin .lss (.t 50) (.c (.i .i64 2))⟩])
 (.cond (.t 51) (.seq (.reg [⟨some 52, none, .build [(.i .i64 0), (.i .i64 0), (.i .i64 0), (.s ⟨#[]⟩), (.sl none 0 0 true)] []⟩,⟨none, none, .st 5 (.t 4) (.t 52)⟩,⟨some 5, none, .mv (.c (.i .i64 32))⟩])
 (.ret))
 (.skip)))
 (.seq (.reg [⟨some 53, none, .mv (.t 8)⟩,⟨some 54, none, .mv (.t 1)⟩,⟨some 55, none, .mv (.t 9)⟩,⟨some 56, none, .bin .add (.t 54) (.t 55)⟩,⟨some 57, none, .build [(.i .i64 0), (.i .i64 0), (.i .i64 0), (.s ⟨#[]⟩), (.sl none 0 0 true)] [(0, 1, (.c (.i .i64 1))), (2, 1, (.t 53)), (1, 1, (.t 56))]⟩,⟨none, none, .st 5 (.t 4) (.t 57)⟩,⟨some 5, none, .mv (.c (.i .i64 0))⟩])
 (.ret)))))
theorem fn314 : F 314 = .go 58 [.c 4 (some 5), .t 5] v314 := by rw [F, fnOf, Tryz.func314]; kernel_rfl

def v315 : VC :=
 .seq (.reg [⟨some 2, none, .mv (.c (.i .i64 0))⟩])
 (.seq (.seq (.reg [⟨some 3, none, .mv (.t 0)⟩])
 (.blk 0 (.seq (.reg [⟨some 5, none, .bin .eql (.t 3) (.c (.i .u8 110))⟩,⟨some 4, none, .mv (.t 5)⟩])
 (.cond (.t 4) (.seq (.reg [⟨some 2, none, .mv (.c (.i .i64 10))⟩])
 (.ret))
 (.seq (.reg [⟨some 7, none, .bin .eql (.t 3) (.c (.i .u8 116))⟩,⟨some 6, none, .mv (.t 7)⟩])
 (.cond (.t 6) (.seq (.reg [⟨some 2, none, .mv (.c (.i .i64 9))⟩])
 (.ret))
 (.seq (.reg [⟨some 9, none, .bin .eql (.t 3) (.c (.i .u8 114))⟩,⟨some 8, none, .mv (.t 9)⟩])
 (.cond (.t 8) (.seq (.reg [⟨some 2, none, .mv (.c (.i .i64 13))⟩])
 (.ret))
 (.seq (.reg [⟨some 11, none, .bin .eql (.t 3) (.c (.i .u8 102))⟩,⟨some 10, none, .mv (.t 11)⟩])
 (.cond (.t 10) (.seq (.reg [⟨some 2, none, .mv (.c (.i .i64 12))⟩])
 (.ret))
 (.seq (.reg [⟨some 13, none, .bin .eql (.t 3) (.c (.i .u8 118))⟩,⟨some 12, none, .mv (.t 13)⟩])
 (.cond (.t 12) (.seq (.reg [⟨some 2, none, .mv (.c (.i .i64 11))⟩])
 (.ret))
 (.seq (.reg [⟨some 15, none, .bin .eql (.t 3) (.c (.i .u8 97))⟩,⟨some 14, none, .mv (.t 15)⟩])
 (.cond (.t 14) (.seq (.reg [⟨some 2, none, .mv (.c (.i .i64 7))⟩])
 (.ret))
 (.seq (.reg [⟨some 17, none, .bin .eql (.t 3) (.c (.i .u8 101))⟩,⟨some 16, none, .mv (.t 17)⟩])
 (.cond (.t 16) (.seq (.reg [⟨some 2, none, .mv (.c (.i .i64 27))⟩])
 (.ret))
 (.skip)))))))))))))))))
 (.seq (.reg [⟨some 2, none, .mv (.c (.i .i64 (-1)))⟩])
 (.ret)))
theorem fn315 : F 315 = .go 18 [.t 2] v315 := by rw [F, fnOf, Tryz.func315]; kernel_rfl

def v316 : VC :=
 .seq (.reg [⟨some 2, none, .mv (.c (.sl none 0 0 true))⟩,⟨some 3, none, .mv (.c (.b false))⟩])
 (.seq (.seq (.reg [⟨some 6, none, .mv (.t 0)⟩])
 (.blk 0 (.seq (.reg [⟨some 8, none, .bin .eql (.t 6) (.c (.i .u8 100))⟩,⟨some 7, none, .mv (.t 8)⟩])
 (.cond (.t 7) (.seq (.reg [⟨some 9, none, .call 217 [(.c (.s ⟨#[100, 105, 103, 105, 116]⟩))]⟩,⟨some 2, none, .mv (.t 9)⟩,⟨some 3, none, .mv (.c (.b true))⟩])
 (.ret))
 (.seq (.reg [⟨some 11, none, .bin .eql (.t 6) (.c (.i .u8 119))⟩,⟨some 10, none, .mv (.t 11)⟩])
 (.cond (.t 10) (.seq (.reg [⟨some 12, none, .call 217 [(.c (.s ⟨#[119, 111, 114, 100]⟩))]⟩,⟨some 2, none, .mv (.t 12)⟩,⟨some 3, none, .mv (.c (.b true))⟩])
 (.ret))
 (.seq (.reg [⟨some 14, none, .bin .eql (.t 6) (.c (.i .u8 115))⟩,⟨some 13, none, .mv (.t 14)⟩])
 (.cond (.t 13) (.seq (.reg [⟨some 15, none, .call 217 [(.c (.s ⟨#[115, 112, 97, 99, 101]⟩))]⟩,⟨some 2, none, .mv (.t 15)⟩,⟨some 3, none, .mv (.c (.b true))⟩])
 (.ret))
 (.seq (.seq (.reg [⟨some 17, none, .bin .eql (.t 6) (.c (.i .u8 68))⟩,⟨some 16, none, .mv (.t 17)⟩])
 (.cond (.t 16) (.skip)
 (.seq (.reg [⟨some 18, none, .bin .eql (.t 6) (.c (.i .u8 87))⟩,⟨some 16, none, .mv (.t 18)⟩])
 (.cond (.t 16) (.skip)
 (.reg [⟨some 19, none, .bin .eql (.t 6) (.c (.i .u8 83))⟩,⟨some 16, none, .mv (.t 19)⟩])))))
 (.cond (.t 16) (.seq (.reg [⟨some 21, none, .mv (.t 0)⟩,⟨some 22, none, .bin .add (.t 21) (.c (.i .u8 97))⟩,⟨some 23, none, .bin .sub (.t 22) (.c (.i .u8 65))⟩,⟨some 24, none, .call 316 [(.t 23)]⟩,⟨some 20, none, .mv (.t 24)⟩,⟨some 25, none, .ext (.t 20) 0⟩,⟨some 26, none, .ext (.t 20) 1⟩,⟨some 4, none, .mv (.t 25)⟩,⟨some 5, none, .mv (.t 26)⟩])
 (.seq (.reg [⟨some 27, none, .mv (.t 4)⟩,⟨some 28, none, .call 280 [(.t 27)]⟩,⟨some 2, none, .mv (.t 28)⟩,⟨some 3, none, .mv (.c (.b true))⟩])
 (.ret)))
 (.skip)))))))))))
 (.seq (.reg [⟨some 2, none, .mv (.c (.sl none 0 0 true))⟩,⟨some 3, none, .mv (.c (.b false))⟩])
 (.ret)))
theorem fn316 : F 316 = .go 29 [.t 2, .t 3] v316 := by rw [F, fnOf, Tryz.func316]; kernel_rfl

def v317 : VC :=
 .seq (.reg [⟨some 2, none, .mv (.c (.b false))⟩])
 (.seq (.reg [⟨some 3, none, .mv (.t 0)⟩,⟨some 4, none, .bin .geq (.t 3) (.c (.i .u8 97))⟩,⟨some 5, none, .mv (.t 4)⟩,⟨some 6, some (5, true), .mv (.t 0)⟩,⟨some 7, some (5, true), .bin .leq (.t 6) (.c (.i .u8 122))⟩,⟨some 8, none, .pick (.t 5) (.t 7) (.c (.b false))⟩,⟨some 9, none, .mv (.t 8)⟩,⟨some 10, some (9, false), .mv (.t 0)⟩,⟨some 11, some (9, false), .bin .geq (.t 10) (.c (.i .u8 65))⟩,⟨some 12, some (9, false), .mv (.t 11)⟩,⟨some 13, some (12, true), .mv (.t 0)⟩,⟨some 14, some (12, true), .bin .leq (.t 13) (.c (.i .u8 90))⟩,⟨some 15, some (9, false), .pick (.t 12) (.t 14) (.c (.b false))⟩,⟨some 16, none, .pick (.t 9) (.c (.b true)) (.t 15)⟩,⟨some 2, none, .mv (.t 16)⟩])
 (.ret))
theorem fn317 : F 317 = .go 17 [.t 2] v317 := by rw [F, fnOf, Tryz.func317]; kernel_rfl

def v318 : VC :=
 .seq (.reg [⟨some 8, none, .mv (.c (.i .i64 0))⟩,⟨some 9, none, .mv (.c (.i .i64 0))⟩])
 (.seq (.seq (.regd [⟨some 10, none, .mv (.t 0)⟩,⟨some 11, none, .mv (.t 2)⟩,⟨some 12, none, .ia 1 (.t 10) (.t 11)⟩,⟨some 13, none, .ld (.t 12)⟩,⟨some 14, none, .mv (.t 0)⟩,⟨some 15, none, .mv (.t 1)⟩,⟨some 16, none, .ia 1 (.t 14) (.t 15)⟩,⟨some 17, none, .ld (.t 16)⟩,⟨some 18, none, .call 289 [(.t 13), (.t 17)]⟩] [])
 (.cond (.t 18) (.seq (.reg [⟨some 19, none, .mv (.t 3)⟩,⟨some 20, none, .nc (.t 19)⟩,⟨some 21, none, .ld (.t 20)⟩,⟨some 22, none, .bin .add (.t 21) (.c (.i .i64 1))⟩,⟨some 23, none, .nc (.t 19)⟩,⟨none, none, .st 1 (.t 23) (.t 22)⟩])
 (.seq (.reg [⟨some 24, none, .mv (.t 2)⟩,⟨some 25, none, .mv (.t 1)⟩,⟨some 8, none, .mv (.t 24)⟩,⟨some 9, none, .mv (.t 25)⟩])
 (.ret)))
 (.skip)))
 (.seq (.reg [⟨some 26, none, .mv (.t 1)⟩,⟨some 27, none, .mv (.t 2)⟩,⟨some 8, none, .mv (.t 26)⟩,⟨some 9, none, .mv (.t 27)⟩])
 (.ret)))
theorem fn318 : F 318 = .go 28 [.t 8, .t 9] v318 := by rw [F, fnOf, Tryz.func318]; kernel_rfl

def v319 : VC :=
 .seq (.reg [⟨some 4, none, .mv (.c (.b false))⟩])
 (.seq (.reg [⟨some 5, none, .mv (.t 0)⟩,⟨some 6, none, .len 0 (.t 5)⟩,⟨some 7, none, .mv (.t 1)⟩,⟨some 8, none, .len 0 (.t 7)⟩,⟨some 9, none, .bin .geq (.t 6) (.t 8)⟩,⟨some 10, none, .mv (.t 9)⟩,⟨some 11, some (10, true), .mv (.t 0)⟩,⟨some 12, some (10, true), .mv (.t 1)⟩,⟨some 13, some (10, true), .len 0 (.t 12)⟩,⟨some 14, some (10, true), .sls (.t 11) none (some (.t 13))⟩,⟨some 15, some (10, true), .mv (.t 1)⟩,⟨some 16, some (10, true), .bin .eql (.t 14) (.t 15)⟩,⟨some 17, none, .pick (.t 10) (.t 16) (.c (.b false))⟩,⟨some 4, none, .mv (.t 17)⟩])
 (.ret))
theorem fn319 : F 319 = .go 18 [.t 4] v319 := by rw [F, fnOf, Tryz.func319]; kernel_rfl

def v320 : VC :=
 .seq (.reg [⟨some 4, none, .mv (.c (.s ⟨#[]⟩))⟩,⟨some 5, none, .mv (.c (.s ⟨#[]⟩))⟩,⟨some 6, none, .mv (.c (.b false))⟩])
 (.seq (.reg [⟨some 7, none, .mv (.t 0)⟩,⟨some 8, none, .mv (.t 1)⟩,⟨some 9, none, .call 324 [(.t 7), (.t 8)]⟩,⟨some 10, none, .ext (.t 9) 0⟩,⟨some 11, none, .ext (.t 9) 1⟩,⟨some 12, none, .ext (.t 9) 2⟩,⟨some 4, none, .mv (.t 10)⟩,⟨some 5, none, .mv (.t 11)⟩,⟨some 6, none, .mv (.t 12)⟩])
 (.ret))
theorem fn320 : F 320 = .go 13 [.t 4, .t 5, .t 6] v320 := by rw [F, fnOf, Tryz.func320]; kernel_rfl

def v321 : VC :=
 .seq (.reg [⟨some 4, none, .mv (.c (.s ⟨#[]⟩))⟩,⟨some 5, none, .mv (.c (.b false))⟩])
 (.seq (.reg [⟨some 6, none, .mv (.t 0)⟩,⟨some 7, none, .mv (.t 1)⟩,⟨some 8, none, .call 325 [(.t 6), (.t 7)]⟩,⟨some 9, none, .ext (.t 8) 0⟩,⟨some 10, none, .ext (.t 8) 1⟩,⟨some 4, none, .mv (.t 9)⟩,⟨some 5, none, .mv (.t 10)⟩])
 (.ret))
theorem fn321 : F 321 = .go 11 [.t 4, .t 5] v321 := by rw [F, fnOf, Tryz.func321]; kernel_rfl

def v322 : VC :=
 .seq (.reg [⟨some 6, none, .mv (.c (.i .i64 0))⟩,⟨some 7, none, .mv (.c (.i .i64 0))⟩])
 (.seq (.reg [⟨some 8, none, .mv (.c (.i .i64 0))⟩,⟨some 9, none, .mv (.c (.i .i64 0))⟩])
 (.seq (.blk 0 (.loop (.seq (.seq (.reg [⟨some 10, none, .mv (.t 9)⟩,⟨some 11, none, .mv (.t 2)⟩,⟨some 12, none, .bin .lss (.t 10) (.t 11)⟩,⟨some 13, none, .mv (.t 12)⟩,⟨some 14, some (13, true), .mv (.t 0)⟩,⟨some 15, some (13, true), .mv (.t 1)⟩,⟨some 16, some (13, true), .mv (.t 9)⟩,⟨some 17, some (13, true), .bin .add (.t 15) (.t 16)⟩,⟨some 18, some (13, true), .call 275 [(.t 14), (.t 17)]⟩,⟨some 19, some (13, true), .call 326 [(.t 18)]⟩,⟨some 20, some (13, true), .bin .geq (.t 19) (.c (.i .i64 0))⟩,⟨some 21, none, .pick (.t 13) (.t 20) (.c (.b false))⟩])
 (.cond (.t 21) (.skip)
 (.exit 0)))
 (.seq (.blk 1 (.reg [⟨some 24, none, .mv (.t 8)⟩,⟨some 25, none, .bin .mul (.t 24) (.c (.i .i64 16))⟩,⟨some 26, none, .mv (.t 0)⟩,⟨some 27, none, .mv (.t 1)⟩,⟨some 28, none, .mv (.t 9)⟩,⟨some 29, none, .bin .add (.t 27) (.t 28)⟩,⟨some 30, none, .ia 1 (.t 26) (.t 29)⟩,⟨some 31, none, .ld (.t 30)⟩,⟨some 32, none, .call 326 [(.t 31)]⟩,⟨some 33, none, .bin .add (.t 25) (.t 32)⟩,⟨some 8, none, .mv (.t 33)⟩]))
 (.reg [⟨some 22, none, .mv (.t 9)⟩,⟨some 23, none, .bin .add (.t 22) (.c (.i .i64 1))⟩,⟨some 9, none, .mv (.t 23)⟩])))))
 (.seq (.reg [⟨some 34, none, .mv (.t 8)⟩,⟨some 35, none, .mv (.t 9)⟩,⟨some 6, none, .mv (.t 34)⟩,⟨some 7, none, .mv (.t 35)⟩])
 (.ret))))
theorem fn322 : F 322 = .go 36 [.t 6, .t 7] v322 := by rw [F, fnOf, Tryz.func322]; kernel_rfl

def v323 : VC :=
 .seq (.reg [⟨some 2, none, .mv (.c (.b false))⟩])
 (.seq (.blk 0 (.seq (.reg [⟨some 4, none, .mv (.t 0)⟩,⟨some 5, none, .bin .lss (.t 4) (.c (.i .i64 0))⟩,⟨some 6, none, .mv (.t 5)⟩,⟨some 7, some (6, false), .mv (.t 0)⟩,⟨some 8, some (6, false), .bin .gtr (.t 7) (.c (.i .i64 1114367))⟩,⟨some 9, none, .pick (.t 6) (.c (.b true)) (.t 8)⟩,⟨some 3, none, .mv (.t 9)⟩])
 (.cond (.t 3) (.seq (.reg [⟨some 2, none, .mv (.c (.b false))⟩])
 (.ret))
 (.seq (.reg [⟨some 11, none, .mv (.t 0)⟩,⟨some 12, none, .bin .gtr (.t 11) (.c (.i .i64 1114111))⟩,⟨some 10, none, .mv (.t 12)⟩])
 (.cond (.t 10) (.seq (.reg [⟨some 13, none, .mv (.t 0)⟩,⟨some 14, none, .bin .geq (.t 13) (.c (.i .i64 1114240))⟩,⟨some 2, none, .mv (.t 14)⟩])
 (.ret))
 (.skip))))))
 (.seq (.reg [⟨some 15, none, .mv (.t 0)⟩,⟨some 16, none, .bin .lss (.t 15) (.c (.i .i64 55296))⟩,⟨some 17, none, .mv (.t 16)⟩,⟨some 18, some (17, false), .mv (.t 0)⟩,⟨some 19, some (17, false), .bin .gtr (.t 18) (.c (.i .i64 57343))⟩,⟨some 20, none, .pick (.t 17) (.c (.b true)) (.t 19)⟩,⟨some 2, none, .mv (.t 20)⟩])
 (.ret)))
theorem fn323 : F 323 = .go 21 [.t 2] v323 := by rw [F, fnOf, Tryz.func323]; kernel_rfl

def v324 : VC :=
 .seq (.reg [⟨some 4, none, .mv (.c (.s ⟨#[]⟩))⟩,⟨some 5, none, .mv (.c (.s ⟨#[]⟩))⟩,⟨some 6, none, .mv (.c (.b false))⟩])
 (.seq (.seq (.reg [⟨some 8, none, .mv (.t 0)⟩,⟨some 9, none, .mv (.t 1)⟩,⟨some 10, none, .call 327 [(.t 8), (.t 9)]⟩,⟨some 7, none, .mv (.t 10)⟩])
 (.seq (.reg [⟨some 11, none, .mv (.t 7)⟩,⟨some 12, none, .bin .geq (.t 11) (.c (.i .i64 0))⟩])
 (.cond (.t 12) (.seq (.regd [⟨some 13, none, .mv (.t 0)⟩,⟨some 14, none, .mv (.t 7)⟩,⟨some 15, none, .sls (.t 13) none (some (.t 14))⟩,⟨some 16, none, .mv (.t 0)⟩,⟨some 17, none, .mv (.t 7)⟩,⟨some 18, none, .mv (.t 1)⟩,⟨some 19, none, .len 0 (.t 18)⟩,⟨some 20, none, .bin .add (.t 17) (.t 19)⟩,⟨some 21, none, .sls (.t 16) (some (.t 20)) none⟩,⟨some 4, none, .mv (.t 15)⟩,⟨some 5, none, .mv (.t 21)⟩,⟨some 6, none, .mv (.c (.b true))⟩] [])
 (.ret))
 (.skip))))
 (.seq (.reg [⟨some 22, none, .mv (.t 0)⟩,⟨some 4, none, .mv (.t 22)⟩,⟨some 5, none, .mv (.c (.s ⟨#[]⟩))⟩,⟨some 6, none, .mv (.c (.b false))⟩])
 (.ret)))
theorem fn324 : F 324 = .go 23 [.t 4, .t 5, .t 6] v324 := by rw [F, fnOf, Tryz.func324]; kernel_rfl

def v325 : VC :=
 .seq (.reg [⟨some 4, none, .mv (.c (.s ⟨#[]⟩))⟩,⟨some 5, none, .mv (.c (.b false))⟩])
 (.seq (.seq (.reg [⟨some 6, none, .mv (.t 0)⟩,⟨some 7, none, .mv (.t 1)⟩,⟨some 8, none, .call 319 [(.t 6), (.t 7)]⟩,⟨some 9, none, .un .not (.t 8)⟩])
 (.cond (.t 9) (.seq (.reg [⟨some 10, none, .mv (.t 0)⟩,⟨some 4, none, .mv (.t 10)⟩,⟨some 5, none, .mv (.c (.b false))⟩])
 (.ret))
 (.skip)))
 (.seq (.reg [⟨some 11, none, .mv (.t 0)⟩,⟨some 12, none, .mv (.t 1)⟩,⟨some 13, none, .len 0 (.t 12)⟩,⟨some 14, none, .sls (.t 11) (some (.t 13)) none⟩,⟨some 4, none, .mv (.t 14)⟩,⟨some 5, none, .mv (.c (.b true))⟩])
 (.ret)))
theorem fn325 : F 325 = .go 15 [.t 4, .t 5] v325 := by rw [F, fnOf, Tryz.func325]; kernel_rfl

def v326 : VC :=
 .seq (.reg [⟨some 2, none, .mv (.c (.i .i64 0))⟩])
 (.seq (.blk 0 (.seq (.reg [⟨some 4, none, .mv (.t 0)⟩,⟨some 5, none, .call 302 [(.t 4)]⟩,⟨some 3, none, .mv (.t 5)⟩])
 (.cond (.t 3) (.seq (.reg [⟨some 6, none, .mv (.t 0)⟩,⟨some 7, none, .bin .sub (.t 6) (.c (.i .u8 48))⟩,⟨some 8, none, .cvi .i64 (.t 7)⟩,⟨some 2, none, .mv (.t 8)⟩])
 (.ret))
 (.seq (.reg [⟨some 10, none, .mv (.t 0)⟩,⟨some 11, none, .bin .geq (.t 10) (.c (.i .u8 97))⟩,⟨some 12, none, .mv (.t 11)⟩,⟨some 13, some (12, true), .mv (.t 0)⟩,⟨some 14, some (12, true), .bin .leq (.t 13) (.c (.i .u8 102))⟩,⟨some 15, none, .pick (.t 12) (.t 14) (.c (.b false))⟩,⟨some 9, none, .mv (.t 15)⟩])
 (.cond (.t 9) (.seq (.reg [⟨some 16, none, .mv (.t 0)⟩,⟨some 17, none, .bin .sub (.t 16) (.c (.i .u8 97))⟩,⟨some 18, none, .cvi .i64 (.t 17)⟩,⟨some 19, none, .bin .add (.t 18) (.c (.i .i64 10))⟩,⟨some 2, none, .mv (.t 19)⟩])
 (.ret))
 (.seq (.reg [⟨some 21, none, .mv (.t 0)⟩,⟨some 22, none, .bin .geq (.t 21) (.c (.i .u8 65))⟩,⟨some 23, none, .mv (.t 22)⟩,⟨some 24, some (23, true), .mv (.t 0)⟩,⟨some 25, some (23, true), .bin .leq (.t 24) (.c (.i .u8 70))⟩,⟨some 26, none, .pick (.t 23) (.t 25) (.c (.b false))⟩,⟨some 20, none, .mv (.t 26)⟩])
 (.cond (.t 20) (.seq (.reg [⟨some 27, none, .mv (.t 0)⟩,⟨some 28, none, .bin .sub (.t 27) (.c (.i .u8 65))⟩,⟨some 29, none, .cvi .i64 (.t 28)⟩,⟨some 30, none, .bin .add (.t 29) (.c (.i .i64 10))⟩,⟨some 2, none, .mv (.t 30)⟩])
 (.ret))
 (.skip))))))))
 (.seq (.reg [⟨some 2, none, .mv (.c (.i .i64 (-1)))⟩])
 (.ret)))
theorem fn326 : F 326 = .go 31 [.t 2] v326 := by rw [F, fnOf, Tryz.func326]; kernel_rfl

def v327 : VC :=
 .seq (.reg [⟨some 4, none, .mv (.c (.i .i64 0))⟩])
 (.seq (.reg [⟨some 14, none, .mv (.t 1)⟩,⟨some 15, none, .len 0 (.t 14)⟩,⟨some 5, none, .mv (.t 15)⟩])
 (.seq (.blk 0 (.seq (.reg [⟨some 17, none, .mv (.t 5)⟩,⟨some 18, none, .bin .eql (.t 17) (.c (.i .i64 0))⟩,⟨some 19, none, .mv (.t 18)⟩,⟨some 20, some (19, false), .mv (.t 1)⟩,⟨some 21, some (19, false), .mv (.t 0)⟩,⟨some 22, some (19, false), .bin .eql (.t 20) (.t 21)⟩,⟨some 23, none, .pick (.t 19) (.c (.b true)) (.t 22)⟩,⟨some 16, none, .mv (.t 23)⟩])
 (.cond (.t 16) (.seq (.reg [⟨some 4, none, .mv (.c (.i .i64 0))⟩])
 (.ret))
 (.seq (.reg [⟨some 25, none, .mv (.t 5)⟩,⟨some 26, none, .bin .eql (.t 25) (.c (.i .i64 1))⟩,⟨some 24, none, .mv (.t 26)⟩])
 (.cond (.t 24) (.seq (.reg [⟨some 27, none, .mv (.t 0)⟩,⟨some 28, none, .mv (.t 1)⟩,⟨some 29, none, .ixs (.t 28) (.c (.i .i64 0))⟩,⟨some 30, none, .call 328 [(.t 27), (.t 29)]⟩,⟨some 4, none, .mv (.t 30)⟩])
 (.ret))
 (.seq (.reg [⟨some 32, none, .mv (.t 5)⟩,⟨some 33, none, .mv (.t 0)⟩,⟨some 34, none, .len 0 (.t 33)⟩,⟨some 35, none, .bin .geq (.t 32) (.t 34)⟩,⟨some 31, none, .mv (.t 35)⟩])
 (.cond (.t 31) (.seq (.reg [⟨some 4, none, .mv (.c (.i .i64 (-1)))⟩])
 (.ret))
 (.seq (.reg [⟨some 37, none, .mv (.t 5)⟩,⟨some 38, none, .ld (.c (.p (some (5, 0))))⟩,⟨some 39, none, .bin .leq (.t 37) (.t 38)⟩,⟨some 40, none, .mv (.t 39)⟩,⟨some 41, some (40, true), .mv (.t 0)⟩,⟨some 42, some (40, true), .len 0 (.t 41)⟩,⟨some 43, some (40, true), .bin .leq (.t 42) (.c (.i .i64 64))⟩,⟨some 44, none, .pick (.t 40) (.t 43) (.c (.b false))⟩,⟨some 36, none, .mv (.t 44)⟩])
 (.cond (.t 36) (.seq (.reg [⟨some 45, none, .mv (.t 0)⟩,⟨some 46, none, .mv (.t 1)⟩,⟨some 47, none, .call 329 [(.t 45), (.t 46)]⟩,⟨some 4, none, .mv (.t 47)⟩])
 (.ret))
 (.skip))))))))))
 (.seq (.reg [⟨some 48, none, .mv (.t 1)⟩,⟨some 49, none, .ixs (.t 48) (.c (.i .i64 0))⟩,⟨some 6, none, .mv (.t 49)⟩])
 (.seq (.reg [⟨some 50, none, .mv (.t 1)⟩,⟨some 51, none, .ixs (.t 50) (.c (.i .i64 1))⟩,⟨some 7, none, .mv (.t 51)⟩])
 (.seq (.reg [⟨some 8, none, .mv (.c (.i .i64 0))⟩])
 (.seq (.reg [⟨some 52, none, .mv (.t 0)⟩,⟨some 53, none, .len 0 (.t 52)⟩,⟨some 54, none, .mv (.t 5)⟩,⟨some 55, none, .bin .sub (.t 53) (.t 54)⟩,⟨some 56, none, .bin .add (.t 55) (.c (.i .i64 1))⟩,⟨some 9, none, .mv (.t 56)⟩])
 (.seq (.reg [⟨some 10, none, .mv (.c (.i .i64 0))⟩])
 (.seq (.blk 1 (.loop (.seq (.seq (.reg [⟨some 57, none, .mv (.t 8)⟩,⟨some 58, none, .mv (.t 9)⟩,⟨some 59, none, .bin .lss (.t 57) (.t 58)⟩])
 (.cond (.t 59) (.skip)
 (.exit 1)))
 (.blk 2 (.seq (.seq (.reg [⟨some 60, none, .mv (.t 0)⟩,⟨some 61, none, .mv (.t 8)⟩,⟨some 62, none, .ixs (.t 60) (.t 61)⟩,⟨some 63, none, .mv (.t 6)⟩,⟨some 64, none, .bin .neq (.t 62) (.t 63)⟩])
 (.cond (.t 64) (.seq (.reg [⟨some 65, none, .mv (.t 0)⟩,⟨some 66, none, .mv (.t 8)⟩,⟨some 67, none, .bin .add (.t 66) (.c (.i .i64 1))⟩,⟨some 68, none, .mv (.t 9)⟩,⟨some 69, none, .sls (.t 65) (some (.t 67)) (some (.t 68))⟩,⟨some 70, none, .mv (.t 6)⟩,⟨some 71, none, .call 328 [(.t 69), (.t 70)]⟩,⟨some 11, none, .mv (.t 71)⟩])
 (.seq (.seq (.reg [⟨some 72, none, .mv (.t 11)⟩,⟨some 73, none, .bin .lss (.t 72) (.c (.i .i64 0))⟩])
 (.cond (.t 73) (.seq (.reg [⟨some 4, none, .mv (.c (.i .i64 (-1)))⟩])
 (.ret))
 (.skip)))
 (.reg [⟨some 74, none, .mv (.t 8)⟩,⟨some 75, none, .mv (.t 11)⟩,⟨some 76, none, .bin .add (.t 75) (.c (.i .i64 1))⟩,⟨some 77, none, .bin .add (.t 74) (.t 76)⟩,⟨some 8, none, .mv (.t 77)⟩])))
 (.skip)))
 (.seq (.seq (.reg [⟨some 78, none, .mv (.t 0)⟩,⟨some 79, none, .mv (.t 8)⟩,⟨some 80, none, .bin .add (.t 79) (.c (.i .i64 1))⟩,⟨some 81, none, .ixs (.t 78) (.t 80)⟩,⟨some 82, none, .mv (.t 7)⟩,⟨some 83, none, .bin .eql (.t 81) (.t 82)⟩,⟨some 84, none, .mv (.t 83)⟩,⟨some 85, some (84, true), .mv (.t 0)⟩,⟨some 86, some (84, true), .mv (.t 8)⟩,⟨some 87, some (84, true), .mv (.t 8)⟩,⟨some 88, some (84, true), .mv (.t 5)⟩,⟨some 89, some (84, true), .bin .add (.t 87) (.t 88)⟩,⟨some 90, some (84, true), .sls (.t 85) (some (.t 86)) (some (.t 89))⟩,⟨some 91, some (84, true), .mv (.t 1)⟩,⟨some 92, some (84, true), .bin .eql (.t 90) (.t 91)⟩,⟨some 93, none, .pick (.t 84) (.t 92) (.c (.b false))⟩])
 (.cond (.t 93) (.seq (.reg [⟨some 94, none, .mv (.t 8)⟩,⟨some 4, none, .mv (.t 94)⟩])
 (.ret))
 (.skip)))
 (.seq (.reg [⟨some 95, none, .mv (.t 8)⟩,⟨some 96, none, .bin .add (.t 95) (.c (.i .i64 1))⟩,⟨some 8, none, .mv (.t 96)⟩])
 (.seq (.reg [⟨some 97, none, .mv (.t 10)⟩,⟨some 98, none, .bin .add (.t 97) (.c (.i .i64 1))⟩,⟨some 10, none, .mv (.t 98)⟩])
 (.seq (.reg [⟨some 99, none, .mv (.t 5)⟩,⟨some 100, none, .ld (.c (.p (some (5, 0))))⟩,⟨some 101, none, .bin .leq (.t 99) (.t 100)⟩,⟨some 102, none, .mv (.t 101)⟩,⟨some 103, some (102, true), .mv (.t 10)⟩,⟨some 104, some (102, true), .mv (.t 8)⟩,⟨some 105, some (102, true), .call 330 [(.t 104)]⟩,⟨some 106, some (102, true), .bin .gtr (.t 103) (.t 105)⟩,⟨some 107, none, .pick (.t 102) (.t 106) (.c (.b false))⟩])
 (.cond (.t 107) (.seq (.reg [⟨some 108, none, .mv (.t 0)⟩,⟨some 109, none, .mv (.t 8)⟩,⟨some 110, none, .sls (.t 108) (some (.t 109)) none⟩,⟨some 111, none, .mv (.t 1)⟩,⟨some 112, none, .call 329 [(.t 110), (.t 111)]⟩,⟨some 12, none, .mv (.t 112)⟩])
 (.seq (.seq (.reg [⟨some 113, none, .mv (.t 12)⟩,⟨some 114, none, .bin .geq (.t 113) (.c (.i .i64 0))⟩])
 (.cond (.t 114) (.seq (.reg [⟨some 115, none, .mv (.t 12)⟩,⟨some 116, none, .mv (.t 8)⟩,⟨some 117, none, .bin .add (.t 115) (.t 116)⟩,⟨some 4, none, .mv (.t 117)⟩])
 (.ret))
 (.skip)))
 (.seq (.reg [⟨some 4, none, .mv (.c (.i .i64 (-1)))⟩])
 (.ret))))
 (.seq (.reg [⟨some 118, none, .mv (.t 5)⟩,⟨some 119, none, .ld (.c (.p (some (5, 0))))⟩,⟨some 120, none, .bin .gtr (.t 118) (.t 119)⟩,⟨some 121, none, .mv (.t 120)⟩,⟨some 122, some (121, true), .mv (.t 10)⟩,⟨some 123, some (121, true), .mv (.t 8)⟩,⟨some 124, some (121, true), .bin .shr (.t 123) (.c (.i .u64 4))⟩,⟨some 125, some (121, true), .bin .add (.c (.i .i64 4)) (.t 124)⟩,⟨some 126, some (121, true), .bin .geq (.t 122) (.t 125)⟩,⟨some 127, none, .pick (.t 121) (.t 126) (.c (.b false))⟩,⟨some 128, none, .mv (.t 127)⟩,⟨some 129, some (128, true), .mv (.t 8)⟩,⟨some 130, some (128, true), .mv (.t 9)⟩,⟨some 131, some (128, true), .bin .lss (.t 129) (.t 130)⟩,⟨some 132, none, .pick (.t 128) (.t 131) (.c (.b false))⟩])
 (.cond (.t 132) (.seq (.reg [⟨some 133, none, .mv (.t 0)⟩,⟨some 134, none, .mv (.t 8)⟩,⟨some 135, none, .sls (.t 133) (some (.t 134)) none⟩,⟨some 136, none, .mv (.t 1)⟩,⟨some 137, none, .call 331 [(.t 135), (.t 136)]⟩,⟨some 13, none, .mv (.t 137)⟩])
 (.seq (.seq (.reg [⟨some 138, none, .mv (.t 13)⟩,⟨some 139, none, .bin .lss (.t 138) (.c (.i .i64 0))⟩])
 (.cond (.t 139) (.seq (.reg [⟨some 4, none, .mv (.c (.i .i64 (-1)))⟩])
 (.ret))
 (.skip)))
 (.seq (.reg [⟨some 140, none, .mv (.t 8)⟩,⟨some 141, none, .mv (.t 13)⟩,⟨some 142, none, .bin .add (.t 140) (.t 141)⟩,⟨some 4, none, .mv (.t 142)⟩])
 (.ret))))
 (.skip)))))))))))))
 (.seq (.reg [⟨some 4, none, .mv (.c (.i .i64 (-1)))⟩])
 (.ret))))))))))
theorem fn327 : F 327 = .go 143 [.t 4] v327 := by rw [F, fnOf, Tryz.func327]; kernel_rfl

def v328 : VC :=
 .seq (.reg [⟨some 4, none, .mv (.c (.i .i64 0))⟩])
 (.seq (.reg [⟨some 5, none, .mv (.t 0)⟩,⟨some 6, none, .mv (.t 1)⟩,⟨some 7, none, .call 332 [(.t 5), (.t 6)]⟩,⟨some 4, none, .mv (.t 7)⟩])
 (.ret))
theorem fn328 : F 328 = .go 8 [.t 4] v328 := by rw [F, fnOf, Tryz.func328]; kernel_rfl

def v330 : VC :=
 .seq (.reg [⟨some 2, none, .mv (.c (.i .i64 0))⟩])
 (.seq (.reg [⟨some 3, none, .mv (.t 0)⟩,⟨some 4, none, .bin .add (.t 3) (.c (.i .i64 16))⟩,⟨some 5, none, .bin .quo (.t 4) (.c (.i .i64 8))⟩,⟨some 2, none, .mv (.t 5)⟩])
 (.ret))
theorem fn330 : F 330 = .go 6 [.t 2] v330 := by rw [F, fnOf, Tryz.func330]; kernel_rfl

def v331 : VC :=
 .seq (.reg [⟨some 4, none, .mv (.c (.i .i64 0))⟩])
 (.seq (.reg [⟨some 12, none, .mv (.t 1)⟩,⟨some 13, none, .call 333 [(.t 12)]⟩,⟨some 11, none, .mv (.t 13)⟩,⟨some 14, none, .ext (.t 11) 0⟩,⟨some 15, none, .ext (.t 11) 1⟩,⟨some 5, none, .mv (.t 14)⟩,⟨some 6, none, .mv (.t 15)⟩])
 (.seq (.reg [⟨some 16, none, .mv (.t 1)⟩,⟨some 17, none, .len 0 (.t 16)⟩,⟨some 7, none, .mv (.t 17)⟩])
 (.seq (.reg [⟨some 8, none, .mv (.c (.i .u32 0))⟩])
 (.seq (.seq (.reg [⟨some 9, none, .mv (.c (.i .i64 0))⟩])
 (.blk 0 (.loop (.seq (.seq (.reg [⟨some 18, none, .mv (.t 9)⟩,⟨some 19, none, .mv (.t 7)⟩,⟨some 20, none, .bin .lss (.t 18) (.t 19)⟩])
 (.cond (.t 20) (.skip)
 (.exit 0)))
 (.seq (.blk 1 (.reg [⟨some 23, none, .mv (.t 8)⟩,⟨some 24, none, .bin .mul (.t 23) (.c (.i .u32 16777619))⟩,⟨some 25, none, .mv (.t 0)⟩,⟨some 26, none, .mv (.t 9)⟩,⟨some 27, none, .ixs (.t 25) (.t 26)⟩,⟨some 28, none, .cvi .u32 (.t 27)⟩,⟨some 29, none, .bin .add (.t 24) (.t 28)⟩,⟨some 8, none, .mv (.t 29)⟩]))
 (.reg [⟨some 21, none, .mv (.t 9)⟩,⟨some 22, none, .bin .add (.t 21) (.c (.i .i64 1))⟩,⟨some 9, none, .mv (.t 22)⟩]))))))
 (.seq (.seq (.reg [⟨some 30, none, .mv (.t 8)⟩,⟨some 31, none, .mv (.t 5)⟩,⟨some 32, none, .bin .eql (.t 30) (.t 31)⟩,⟨some 33, none, .mv (.t 32)⟩,⟨some 34, some (33, true), .mv (.t 0)⟩,⟨some 35, some (33, true), .mv (.t 7)⟩,⟨some 36, some (33, true), .sls (.t 34) none (some (.t 35))⟩,⟨some 37, some (33, true), .mv (.t 1)⟩,⟨some 38, some (33, true), .bin .eql (.t 36) (.t 37)⟩,⟨some 39, none, .pick (.t 33) (.t 38) (.c (.b false))⟩])
 (.cond (.t 39) (.seq (.reg [⟨some 4, none, .mv (.c (.i .i64 0))⟩])
 (.ret))
 (.skip)))
 (.seq (.seq (.reg [⟨some 40, none, .mv (.t 7)⟩,⟨some 10, none, .mv (.t 40)⟩])
 (.blk 2 (.loop (.seq (.seq (.reg [⟨some 41, none, .mv (.t 10)⟩,⟨some 42, none, .mv (.t 0)⟩,⟨some 43, none, .len 0 (.t 42)⟩,⟨some 44, none, .bin .lss (.t 41) (.t 43)⟩])
 (.cond (.t 44) (.skip)
 (.exit 2)))
 (.blk 3 (.seq (.reg [⟨some 45, none, .mv (.t 8)⟩,⟨some 46, none, .bin .mul (.t 45) (.c (.i .u32 16777619))⟩,⟨some 8, none, .mv (.t 46)⟩])
 (.seq (.reg [⟨some 47, none, .mv (.t 8)⟩,⟨some 48, none, .mv (.t 0)⟩,⟨some 49, none, .mv (.t 10)⟩,⟨some 50, none, .ixs (.t 48) (.t 49)⟩,⟨some 51, none, .cvi .u32 (.t 50)⟩,⟨some 52, none, .bin .add (.t 47) (.t 51)⟩,⟨some 8, none, .mv (.t 52)⟩])
 (.seq (.reg [⟨some 53, none, .mv (.t 8)⟩,⟨some 54, none, .mv (.t 6)⟩,⟨some 55, none, .mv (.t 0)⟩,⟨some 56, none, .mv (.t 10)⟩,⟨some 57, none, .mv (.t 7)⟩,⟨some 58, none, .bin .sub (.t 56) (.t 57)⟩,⟨some 59, none, .ixs (.t 55) (.t 58)⟩,⟨some 60, none, .cvi .u32 (.t 59)⟩,⟨some 61, none, .bin .mul (.t 54) (.t 60)⟩,⟨some 62, none, .bin .sub (.t 53) (.t 61)⟩,⟨some 8, none, .mv (.t 62)⟩])
 (.seq (.reg [⟨some 63, none, .mv (.t 10)⟩,⟨some 64, none, .bin .add (.t 63) (.c (.i .i64 1))⟩,⟨some 10, none, .mv (.t 64)⟩])
 (.seq (.reg [⟨some 65, none, .mv (.t 8)⟩,⟨some 66, none, .mv (.t 5)⟩,⟨some 67, none, .bin .eql (.t 65) (.t 66)⟩,⟨some 68, none, .mv (.t 67)⟩,⟨some 69, some (68, true), .mv (.t 0)⟩,⟨some 70, some (68, true), .mv (.t 10)⟩,⟨some 71, some (68, true), .mv (.t 7)⟩,⟨some 72, some (68, true), .bin .sub (.t 70) (.t 71)⟩,⟨some 73, some (68, true), .mv (.t 10)⟩,⟨some 74, some (68, true), .sls (.t 69) (some (.t 72)) (some (.t 73))⟩,⟨some 75, some (68, true), .mv (.t 1)⟩,⟨some 76, some (68, true), .bin .eql (.t 74) (.t 75)⟩,⟨some 77, none, .pick (.t 68) (.t 76) (.c (.b false))⟩])
 (.cond (.t 77) (.seq (.reg [⟨some 78, none, .mv (.t 10)⟩,⟨some 79, none, .mv (.t 7)⟩,⟨some 80, none, .bin .sub (.t 78) (.t 79)⟩,⟨some 4, none, .mv (.t 80)⟩])
 (.ret))
 (.skip))))))))))))
 (.seq (.reg [⟨some 4, none, .mv (.c (.i .i64 (-1)))⟩])
 (.ret))))))))
theorem fn331 : F 331 = .go 81 [.t 4] v331 := by rw [F, fnOf, Tryz.func331]; kernel_rfl

def v333 : VC :=
 .seq (.reg [⟨some 2, none, .mv (.c (.i .u32 0))⟩,⟨some 3, none, .mv (.c (.i .u32 0))⟩])
 (.seq (.reg [⟨some 4, none, .mv (.c (.i .u32 0))⟩])
 (.seq (.seq (.reg [⟨some 5, none, .mv (.c (.i .i64 0))⟩])
 (.blk 0 (.loop (.seq (.seq (.reg [⟨some 9, none, .mv (.t 5)⟩,⟨some 10, none, .mv (.t 0)⟩,⟨some 11, none, .len 0 (.t 10)⟩,⟨some 12, none, .bin .lss (.t 9) (.t 11)⟩])
 (.cond (.t 12) (.skip)
 (.exit 0)))
 (.seq (.blk 1 (.reg [⟨some 15, none, .mv (.t 4)⟩,⟨some 16, none, .bin .mul (.t 15) (.c (.i .u32 16777619))⟩,⟨some 17, none, .mv (.t 0)⟩,⟨some 18, none, .mv (.t 5)⟩,⟨some 19, none, .ixs (.t 17) (.t 18)⟩,⟨some 20, none, .cvi .u32 (.t 19)⟩,⟨some 21, none, .bin .add (.t 16) (.t 20)⟩,⟨some 4, none, .mv (.t 21)⟩]))
 (.reg [⟨some 13, none, .mv (.t 5)⟩,⟨some 14, none, .bin .add (.t 13) (.c (.i .i64 1))⟩,⟨some 5, none, .mv (.t 14)⟩]))))))
 (.seq (.reg [⟨some 6, none, .mv (.c (.i .u32 1))⟩,⟨some 7, none, .mv (.c (.i .u32 16777619))⟩])
 (.seq (.seq (.reg [⟨some 22, none, .mv (.t 0)⟩,⟨some 23, none, .len 0 (.t 22)⟩,⟨some 8, none, .mv (.t 23)⟩])
 (.blk 2 (.loop (.seq (.seq (.reg [⟨some 24, none, .mv (.t 8)⟩,⟨some 25, none, .bin .gtr (.t 24) (.c (.i .i64 0))⟩])
 (.cond (.t 25) (.skip)
 (.exit 2)))
 (.seq (.blk 3 (.seq (.seq (.reg [⟨some 28, none, .mv (.t 8)⟩,⟨some 29, none, .bin .and (.t 28) (.c (.i .i64 1))⟩,⟨some 30, none, .bin .neq (.t 29) (.c (.i .i64 0))⟩])
 (.cond (.t 30) (.reg [⟨some 31, none, .mv (.t 6)⟩,⟨some 32, none, .mv (.t 7)⟩,⟨some 33, none, .bin .mul (.t 31) (.t 32)⟩,⟨some 6, none, .mv (.t 33)⟩])
 (.skip)))
 (.reg [⟨some 34, none, .mv (.t 7)⟩,⟨some 35, none, .mv (.t 7)⟩,⟨some 36, none, .bin .mul (.t 34) (.t 35)⟩,⟨some 7, none, .mv (.t 36)⟩])))
 (.reg [⟨some 26, none, .mv (.t 8)⟩,⟨some 27, none, .bin .shr (.t 26) (.c (.i .u64 1))⟩,⟨some 8, none, .mv (.t 27)⟩]))))))
 (.seq (.reg [⟨some 37, none, .mv (.t 4)⟩,⟨some 38, none, .mv (.t 6)⟩,⟨some 2, none, .mv (.t 37)⟩,⟨some 3, none, .mv (.t 38)⟩])
 (.ret))))))
theorem fn333 : F 333 = .go 39 [.t 2, .t 3] v333 := by rw [F, fnOf, Tryz.func333]; kernel_rfl

end Go.Proofs.YtnbdamdcmofafaaGreatDoor
