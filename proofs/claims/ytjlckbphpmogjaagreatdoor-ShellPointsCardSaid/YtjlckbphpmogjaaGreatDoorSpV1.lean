/- The functions of the program as the interpreter's code, part 1; each is what the program's text gives. No condition. -/
import Derived.Test.YtjlckbphpmogjaaGreatDoorProg
import Derived.Test.YtjlckbphpmogjaaGreatDoorSpVE
import Derived.KernelRfl
namespace Go.Proofs.YtjlckbphpmogjaaGreatDoor
open Go.Vi

def v176 : VC :=
 .seq (.reg [⟨some 2, none, .mv (.c (.s ⟨#[]⟩))⟩])
 (.seq (.seq (.reg [⟨some 3, none, .mv (.t 0)⟩,⟨some 4, none, .bin .lss (.t 3) (.c (.i .i64 10))⟩])
 (.cond (.t 4) (.seq (.reg [⟨some 5, none, .mv (.t 0)⟩,⟨some 6, none, .mv (.t 0)⟩,⟨some 7, none, .bin .add (.t 6) (.c (.i .i64 1))⟩,⟨some 8, none, .sls (.c (.s ⟨#[48, 49, 50, 51, 52, 53, 54, 55, 56, 57, 97, 98, 99, 100, 101, 102, 103, 104, 105, 106, 107, 108, 109, 110, 111, 112, 113, 114, 115, 116, 117, 118, 119, 120, 121, 122]⟩)) (some (.t 5)) (some (.t 7))⟩,⟨some 2, none, .mv (.t 8)⟩])
 (.ret))
 (.skip)))
 (.seq (.reg [⟨some 9, none, .mv (.t 0)⟩,⟨some 10, none, .bin .mul (.t 9) (.c (.i .i64 2))⟩,⟨some 11, none, .mv (.t 0)⟩,⟨some 12, none, .bin .mul (.t 11) (.c (.i .i64 2))⟩,⟨some 13, none, .bin .add (.t 12) (.c (.i .i64 2))⟩,⟨some 14, none, .sls (.c (.s ⟨#[48, 48, 48, 49, 48, 50, 48, 51, 48, 52, 48, 53, 48, 54, 48, 55, 48, 56, 48, 57, 49, 48, 49, 49, 49, 50, 49, 51, 49, 52, 49, 53, 49, 54, 49, 55, 49, 56, 49, 57, 50, 48, 50, 49, 50, 50, 50, 51, 50, 52, 50, 53, 50, 54, 50, 55, 50, 56, 50, 57, 51, 48, 51, 49, 51, 50, 51, 51, 51, 52, 51, 53, 51, 54, 51, 55, 51, 56, 51, 57, 52, 48, 52, 49, 52, 50, 52, 51, 52, 52, 52, 53, 52, 54, 52, 55, 52, 56, 52, 57, 53, 48, 53, 49, 53, 50, 53, 51, 53, 52, 53, 53, 53, 54, 53, 55, 53, 56, 53, 57, 54, 48, 54, 49, 54, 50, 54, 51, 54, 52, 54, 53, 54, 54, 54, 55, 54, 56, 54, 57, 55, 48, 55, 49, 55, 50, 55, 51, 55, 52, 55, 53, 55, 54, 55, 55, 55, 56, 55, 57, 56, 48, 56, 49, 56, 50, 56, 51, 56, 52, 56, 53, 56, 54, 56, 55, 56, 56, 56, 57, 57, 48, 57, 49, 57, 50, 57, 51, 57, 52, 57, 53, 57, 54, 57, 55, 57, 56, 57, 57]⟩)) (some (.t 10)) (some (.t 13))⟩,⟨some 2, none, .mv (.t 14)⟩])
 (.ret)))
theorem fn176 : F 176 = .go 15 [.t 2] v176 := by rw [F, fnOf, Tryz.func176]; kernel_rfl

def v177 : VC :=
 .seq (.reg [⟨some 2, none, .mv (.c (.i .i64 0))⟩])
 (.seq (.reg [⟨some 4, none, .mv (.t 0)⟩,⟨some 5, none, .call 236 [(.t 4)]⟩,⟨some 6, none, .call 235 [(.t 5)]⟩,⟨some 3, none, .mv (.t 6)⟩])
 (.seq (.reg [⟨some 7, none, .mv (.t 3)⟩,⟨some 8, none, .mv (.t 0)⟩,⟨some 9, none, .mv (.t 3)⟩,⟨some 10, none, .iaA 20 1 (.c (.p (some (0, 0)))) (.t 9)⟩,⟨some 11, none, .ld (.t 10)⟩,⟨some 12, none, .bin .geq (.t 8) (.t 11)⟩,⟨some 13, none, .call 237 [(.t 12)]⟩,⟨some 14, none, .bin .add (.t 7) (.t 13)⟩,⟨some 2, none, .mv (.t 14)⟩])
 (.ret)))
theorem fn177 : F 177 = .go 15 [.t 2] v177 := by rw [F, fnOf, Tryz.func177]; kernel_rfl

def v178 : VC :=
 .seq (.reg [⟨some 17, none, .mv (.t 0)⟩,⟨some 18, none, .len 1 (.t 17)⟩,⟨some 4, none, .mv (.t 18)⟩])
 (.seq (.blk 0 (.loop (.seq (.seq (.reg [⟨some 19, none, .mv (.t 4)⟩,⟨some 20, none, .bin .geq (.t 19) (.c (.i .i64 8))⟩])
 (.cond (.t 20) (.skip)
 (.exit 0)))
 (.blk 1 (.seq (.reg [⟨some 21, none, .mv (.t 1)⟩,⟨some 22, none, .bin .rem (.t 21) (.c (.i .u64 100000000))⟩,⟨some 23, none, .cvi .u32 (.t 22)⟩,⟨some 5, none, .mv (.t 23)⟩])
 (.seq (.reg [⟨some 24, none, .mv (.t 1)⟩,⟨some 25, none, .bin .quo (.t 24) (.c (.i .u64 100000000))⟩,⟨some 1, none, .mv (.t 25)⟩])
 (.seq (.reg [⟨some 26, none, .mv (.t 5)⟩,⟨some 27, none, .bin .quo (.t 26) (.c (.i .u32 10000))⟩,⟨some 28, none, .mv (.t 5)⟩,⟨some 29, none, .bin .rem (.t 28) (.c (.i .u32 10000))⟩,⟨some 6, none, .mv (.t 27)⟩,⟨some 7, none, .mv (.t 29)⟩])
 (.seq (.reg [⟨some 30, none, .mv (.t 7)⟩,⟨some 31, none, .bin .quo (.t 30) (.c (.i .u32 100))⟩,⟨some 32, none, .bin .mul (.t 31) (.c (.i .u32 2))⟩,⟨some 33, none, .mv (.t 7)⟩,⟨some 34, none, .bin .rem (.t 33) (.c (.i .u32 100))⟩,⟨some 35, none, .bin .mul (.t 34) (.c (.i .u32 2))⟩,⟨some 8, none, .mv (.t 32)⟩,⟨some 9, none, .mv (.t 35)⟩])
 (.seq (.reg [⟨some 36, none, .mv (.t 6)⟩,⟨some 37, none, .bin .quo (.t 36) (.c (.i .u32 100))⟩,⟨some 38, none, .bin .mul (.t 37) (.c (.i .u32 2))⟩,⟨some 39, none, .mv (.t 6)⟩,⟨some 40, none, .bin .rem (.t 39) (.c (.i .u32 100))⟩,⟨some 41, none, .bin .mul (.t 40) (.c (.i .u32 2))⟩,⟨some 10, none, .mv (.t 38)⟩,⟨some 11, none, .mv (.t 41)⟩])
 (.seq (.regd [⟨some 42, none, .mv (.t 0)⟩,⟨some 43, none, .mv (.t 4)⟩,⟨some 44, none, .bin .sub (.t 43) (.c (.i .i64 1))⟩,⟨some 45, none, .mv (.t 0)⟩,⟨some 46, none, .mv (.t 4)⟩,⟨some 47, none, .bin .sub (.t 46) (.c (.i .i64 2))⟩,⟨some 48, none, .mv (.t 9)⟩,⟨some 49, none, .bin .add (.t 48) (.c (.i .u32 1))⟩,⟨some 50, none, .ixs (.c (.s ⟨#[48, 48, 48, 49, 48, 50, 48, 51, 48, 52, 48, 53, 48, 54, 48, 55, 48, 56, 48, 57, 49, 48, 49, 49, 49, 50, 49, 51, 49, 52, 49, 53, 49, 54, 49, 55, 49, 56, 49, 57, 50, 48, 50, 49, 50, 50, 50, 51, 50, 52, 50, 53, 50, 54, 50, 55, 50, 56, 50, 57, 51, 48, 51, 49, 51, 50, 51, 51, 51, 52, 51, 53, 51, 54, 51, 55, 51, 56, 51, 57, 52, 48, 52, 49, 52, 50, 52, 51, 52, 52, 52, 53, 52, 54, 52, 55, 52, 56, 52, 57, 53, 48, 53, 49, 53, 50, 53, 51, 53, 52, 53, 53, 53, 54, 53, 55, 53, 56, 53, 57, 54, 48, 54, 49, 54, 50, 54, 51, 54, 52, 54, 53, 54, 54, 54, 55, 54, 56, 54, 57, 55, 48, 55, 49, 55, 50, 55, 51, 55, 52, 55, 53, 55, 54, 55, 55, 55, 56, 55, 57, 56, 48, 56, 49, 56, 50, 56, 51, 56, 52, 56, 53, 56, 54, 56, 55, 56, 56, 56, 57, 57, 48, 57, 49, 57, 50, 57, 51, 57, 52, 57, 53, 57, 54, 57, 55, 57, 56, 57, 57]⟩)) (.t 49)⟩,⟨some 51, none, .mv (.t 9)⟩,⟨some 52, none, .ixs (.c (.s ⟨#[48, 48, 48, 49, 48, 50, 48, 51, 48, 52, 48, 53, 48, 54, 48, 55, 48, 56, 48, 57, 49, 48, 49, 49, 49, 50, 49, 51, 49, 52, 49, 53, 49, 54, 49, 55, 49, 56, 49, 57, 50, 48, 50, 49, 50, 50, 50, 51, 50, 52, 50, 53, 50, 54, 50, 55, 50, 56, 50, 57, 51, 48, 51, 49, 51, 50, 51, 51, 51, 52, 51, 53, 51, 54, 51, 55, 51, 56, 51, 57, 52, 48, 52, 49, 52, 50, 52, 51, 52, 52, 52, 53, 52, 54, 52, 55, 52, 56, 52, 57, 53, 48, 53, 49, 53, 50, 53, 51, 53, 52, 53, 53, 53, 54, 53, 55, 53, 56, 53, 57, 54, 48, 54, 49, 54, 50, 54, 51, 54, 52, 54, 53, 54, 54, 54, 55, 54, 56, 54, 57, 55, 48, 55, 49, 55, 50, 55, 51, 55, 52, 55, 53, 55, 54, 55, 55, 55, 56, 55, 57, 56, 48, 56, 49, 56, 50, 56, 51, 56, 52, 56, 53, 56, 54, 56, 55, 56, 56, 56, 57, 57, 48, 57, 49, 57, 50, 57, 51, 57, 52, 57, 53, 57, 54, 57, 55, 57, 56, 57, 57]⟩)) (.t 51)⟩,⟨some 53, none, .ia 1 (.t 42) (.t 44)⟩,⟨none, none, .st 1 (.t 53) (.t 50)⟩,⟨some 54, none, .ia 1 (.t 45) (.t 47)⟩,⟨none, none, .st 1 (.t 54) (.t 52)⟩] [])
 (.seq (.regd [⟨some 55, none, .mv (.t 0)⟩,⟨some 56, none, .mv (.t 4)⟩,⟨some 57, none, .bin .sub (.t 56) (.c (.i .i64 3))⟩,⟨some 58, none, .mv (.t 0)⟩,⟨some 59, none, .mv (.t 4)⟩,⟨some 60, none, .bin .sub (.t 59) (.c (.i .i64 4))⟩,⟨some 61, none, .mv (.t 8)⟩,⟨some 62, none, .bin .add (.t 61) (.c (.i .u32 1))⟩,⟨some 63, none, .ixs (.c (.s ⟨#[48, 48, 48, 49, 48, 50, 48, 51, 48, 52, 48, 53, 48, 54, 48, 55, 48, 56, 48, 57, 49, 48, 49, 49, 49, 50, 49, 51, 49, 52, 49, 53, 49, 54, 49, 55, 49, 56, 49, 57, 50, 48, 50, 49, 50, 50, 50, 51, 50, 52, 50, 53, 50, 54, 50, 55, 50, 56, 50, 57, 51, 48, 51, 49, 51, 50, 51, 51, 51, 52, 51, 53, 51, 54, 51, 55, 51, 56, 51, 57, 52, 48, 52, 49, 52, 50, 52, 51, 52, 52, 52, 53, 52, 54, 52, 55, 52, 56, 52, 57, 53, 48, 53, 49, 53, 50, 53, 51, 53, 52, 53, 53, 53, 54, 53, 55, 53, 56, 53, 57, 54, 48, 54, 49, 54, 50, 54, 51, 54, 52, 54, 53, 54, 54, 54, 55, 54, 56, 54, 57, 55, 48, 55, 49, 55, 50, 55, 51, 55, 52, 55, 53, 55, 54, 55, 55, 55, 56, 55, 57, 56, 48, 56, 49, 56, 50, 56, 51, 56, 52, 56, 53, 56, 54, 56, 55, 56, 56, 56, 57, 57, 48, 57, 49, 57, 50, 57, 51, 57, 52, 57, 53, 57, 54, 57, 55, 57, 56, 57, 57]⟩)) (.t 62)⟩,⟨some 64, none, .mv (.t 8)⟩,⟨some 65, none, .ixs (.c (.s ⟨#[48, 48, 48, 49, 48, 50, 48, 51, 48, 52, 48, 53, 48, 54, 48, 55, 48, 56, 48, 57, 49, 48, 49, 49, 49, 50, 49, 51, 49, 52, 49, 53, 49, 54, 49, 55, 49, 56, 49, 57, 50, 48, 50, 49, 50, 50, 50, 51, 50, 52, 50, 53, 50, 54, 50, 55, 50, 56, 50, 57, 51, 48, 51, 49, 51, 50, 51, 51, 51, 52, 51, 53, 51, 54, 51, 55, 51, 56, 51, 57, 52, 48, 52, 49, 52, 50, 52, 51, 52, 52, 52, 53, 52, 54, 52, 55, 52, 56, 52, 57, 53, 48, 53, 49, 53, 50, 53, 51, 53, 52, 53, 53, 53, 54, 53, 55, 53, 56, 53, 57, 54, 48, 54, 49, 54, 50, 54, 51, 54, 52, 54, 53, 54, 54, 54, 55, 54, 56, 54, 57, 55, 48, 55, 49, 55, 50, 55, 51, 55, 52, 55, 53, 55, 54, 55, 55, 55, 56, 55, 57, 56, 48, 56, 49, 56, 50, 56, 51, 56, 52, 56, 53, 56, 54, 56, 55, 56, 56, 56, 57, 57, 48, 57, 49, 57, 50, 57, 51, 57, 52, 57, 53, 57, 54, 57, 55, 57, 56, 57, 57]⟩)) (.t 64)⟩,⟨some 66, none, .ia 1 (.t 55) (.t 57)⟩,⟨none, none, .st 1 (.t 66) (.t 63)⟩,⟨some 67, none, .ia 1 (.t 58) (.t 60)⟩,⟨none, none, .st 1 (.t 67) (.t 65)⟩] [])
 (.seq (.regd [⟨some 68, none, .mv (.t 0)⟩,⟨some 69, none, .mv (.t 4)⟩,⟨some 70, none, .bin .sub (.t 69) (.c (.i .i64 5))⟩,⟨some 71, none, .mv (.t 0)⟩,⟨some 72, none, .mv (.t 4)⟩,⟨some 73, none, .bin .sub (.t 72) (.c (.i .i64 6))⟩,⟨some 74, none, .mv (.t 11)⟩,⟨some 75, none, .bin .add (.t 74) (.c (.i .u32 1))⟩,⟨some 76, none, .ixs (.c (.s ⟨#[48, 48, 48, 49, 48, 50, 48, 51, 48, 52, 48, 53, 48, 54, 48, 55, 48, 56, 48, 57, 49, 48, 49, 49, 49, 50, 49, 51, 49, 52, 49, 53, 49, 54, 49, 55, 49, 56, 49, 57, 50, 48, 50, 49, 50, 50, 50, 51, 50, 52, 50, 53, 50, 54, 50, 55, 50, 56, 50, 57, 51, 48, 51, 49, 51, 50, 51, 51, 51, 52, 51, 53, 51, 54, 51, 55, 51, 56, 51, 57, 52, 48, 52, 49, 52, 50, 52, 51, 52, 52, 52, 53, 52, 54, 52, 55, 52, 56, 52, 57, 53, 48, 53, 49, 53, 50, 53, 51, 53, 52, 53, 53, 53, 54, 53, 55, 53, 56, 53, 57, 54, 48, 54, 49, 54, 50, 54, 51, 54, 52, 54, 53, 54, 54, 54, 55, 54, 56, 54, 57, 55, 48, 55, 49, 55, 50, 55, 51, 55, 52, 55, 53, 55, 54, 55, 55, 55, 56, 55, 57, 56, 48, 56, 49, 56, 50, 56, 51, 56, 52, 56, 53, 56, 54, 56, 55, 56, 56, 56, 57, 57, 48, 57, 49, 57, 50, 57, 51, 57, 52, 57, 53, 57, 54, 57, 55, 57, 56, 57, 57]⟩)) (.t 75)⟩,⟨some 77, none, .mv (.t 11)⟩,⟨some 78, none, .ixs (.c (.s ⟨#[48, 48, 48, 49, 48, 50, 48, 51, 48, 52, 48, 53, 48, 54, 48, 55, 48, 56, 48, 57, 49, 48, 49, 49, 49, 50, 49, 51, 49, 52, 49, 53, 49, 54, 49, 55, 49, 56, 49, 57, 50, 48, 50, 49, 50, 50, 50, 51, 50, 52, 50, 53, 50, 54, 50, 55, 50, 56, 50, 57, 51, 48, 51, 49, 51, 50, 51, 51, 51, 52, 51, 53, 51, 54, 51, 55, 51, 56, 51, 57, 52, 48, 52, 49, 52, 50, 52, 51, 52, 52, 52, 53, 52, 54, 52, 55, 52, 56, 52, 57, 53, 48, 53, 49, 53, 50, 53, 51, 53, 52, 53, 53, 53, 54, 53, 55, 53, 56, 53, 57, 54, 48, 54, 49, 54, 50, 54, 51, 54, 52, 54, 53, 54, 54, 54, 55, 54, 56, 54, 57, 55, 48, 55, 49, 55, 50, 55, 51, 55, 52, 55, 53, 55, 54, 55, 55, 55, 56, 55, 57, 56, 48, 56, 49, 56, 50, 56, 51, 56, 52, 56, 53, 56, 54, 56, 55, 56, 56, 56, 57, 57, 48, 57, 49, 57, 50, 57, 51, 57, 52, 57, 53, 57, 54, 57, 55, 57, 56, 57, 57]⟩)) (.t 77)⟩,⟨some 79, none, .ia 1 (.t 68) (.t 70)⟩,⟨none, none, .st 1 (.t 79) (.t 76)⟩,⟨some 80, none, .ia 1 (.t 71) (.t 73)⟩,⟨none, none, .st 1 (.t 80) (.t 78)⟩] [])
 (.seq (.regd [⟨some 81, none, .mv (.t 0)⟩,⟨some 82, none, .mv (.t 4)⟩,⟨some 83, none, .bin .sub (.t 82) (.c (.i .i64 7))⟩,⟨some 84, none, .mv (.t 0)⟩,⟨some 85, none, .mv (.t 4)⟩,⟨some 86, none, .bin .sub (.t 85) (.c (.i .i64 8))⟩,⟨some 87, none, .mv (.t 10)⟩,⟨some 88, none, .bin .add (.t 87) (.c (.i .u32 1))⟩,⟨some 89, none, .ixs (.c (.s ⟨#[48, 48, 48, 49, 48, 50, 48, 51, 48, 52, 48, 53, 48, 54, 48, 55, 48, 56, 48, 57, 49, 48, 49, 49, 49, 50, 49, 51, 49, 52, 49, 53, 49, 54, 49, 55, 49, 56, 49, 57, 50, 48, 50, 49, 50, 50, 50, 51, 50, 52, 50, 53, 50, 54, 50, 55, 50, 56, 50, 57, 51, 48, 51, 49, 51, 50, 51, 51, 51, 52, 51, 53, 51, 54, 51, 55, 51, 56, 51, 57, 52, 48, 52, 49, 52, 50, 52, 51, 52, 52, 52, 53, 52, 54, 52, 55, 52, 56, 52, 57, 53, 48, 53, 49, 53, 50, 53, 51, 53, 52, 53, 53, 53, 54, 53, 55, 53, 56, 53, 57, 54, 48, 54, 49, 54, 50, 54, 51, 54, 52, 54, 53, 54, 54, 54, 55, 54, 56, 54, 57, 55, 48, 55, 49, 55, 50, 55, 51, 55, 52, 55, 53, 55, 54, 55, 55, 55, 56, 55, 57, 56, 48, 56, 49, 56, 50, 56, 51, 56, 52, 56, 53, 56, 54, 56, 55, 56, 56, 56, 57, 57, 48, 57, 49, 57, 50, 57, 51, 57, 52, 57, 53, 57, 54, 57, 55, 57, 56, 57, 57]⟩)) (.t 88)⟩,⟨some 90, none, .mv (.t 10)⟩,⟨some 91, none, .ixs (.c (.s ⟨#[48, 48, 48, 49, 48, 50, 48, 51, 48, 52, 48, 53, 48, 54, 48, 55, 48, 56, 48, 57, 49, 48, 49, 49, 49, 50, 49, 51, 49, 52, 49, 53, 49, 54, 49, 55, 49, 56, 49, 57, 50, 48, 50, 49, 50, 50, 50, 51, 50, 52, 50, 53, 50, 54, 50, 55, 50, 56, 50, 57, 51, 48, 51, 49, 51, 50, 51, 51, 51, 52, 51, 53, 51, 54, 51, 55, 51, 56, 51, 57, 52, 48, 52, 49, 52, 50, 52, 51, 52, 52, 52, 53, 52, 54, 52, 55, 52, 56, 52, 57, 53, 48, 53, 49, 53, 50, 53, 51, 53, 52, 53, 53, 53, 54, 53, 55, 53, 56, 53, 57, 54, 48, 54, 49, 54, 50, 54, 51, 54, 52, 54, 53, 54, 54, 54, 55, 54, 56, 54, 57, 55, 48, 55, 49, 55, 50, 55, 51, 55, 52, 55, 53, 55, 54, 55, 55, 55, 56, 55, 57, 56, 48, 56, 49, 56, 50, 56, 51, 56, 52, 56, 53, 56, 54, 56, 55, 56, 56, 56, 57, 57, 48, 57, 49, 57, 50, 57, 51, 57, 52, 57, 53, 57, 54, 57, 55, 57, 56, 57, 57]⟩)) (.t 90)⟩,⟨some 92, none, .ia 1 (.t 81) (.t 83)⟩,⟨none, none, .st 1 (.t 92) (.t 89)⟩,⟨some 93, none, .ia 1 (.t 84) (.t 86)⟩,⟨none, none, .st 1 (.t 93) (.t 91)⟩] [])
 (.reg [⟨some 94, none, .mv (.t 4)⟩,⟨some 95, none, .bin .sub (.t 94) (.c (.i .i64 8))⟩,⟨some 4, none, .mv (.t 95)⟩]))))))))))))))
 (.seq (.reg [⟨some 96, none, .mv (.t 1)⟩,⟨some 97, none, .cvi .u32 (.t 96)⟩,⟨some 12, none, .mv (.t 97)⟩])
 (.seq (.seq (.reg [⟨some 98, none, .mv (.t 4)⟩,⟨some 99, none, .bin .geq (.t 98) (.c (.i .i64 4))⟩])
 (.cond (.t 99) (.seq (.reg [⟨some 100, none, .mv (.t 12)⟩,⟨some 101, none, .bin .rem (.t 100) (.c (.i .u32 10000))⟩,⟨some 13, none, .mv (.t 101)⟩])
 (.seq (.reg [⟨some 102, none, .mv (.t 12)⟩,⟨some 103, none, .bin .quo (.t 102) (.c (.i .u32 10000))⟩,⟨some 12, none, .mv (.t 103)⟩])
 (.seq (.reg [⟨some 104, none, .mv (.t 13)⟩,⟨some 105, none, .bin .quo (.t 104) (.c (.i .u32 100))⟩,⟨some 106, none, .bin .mul (.t 105) (.c (.i .u32 2))⟩,⟨some 107, none, .mv (.t 13)⟩,⟨some 108, none, .bin .rem (.t 107) (.c (.i .u32 100))⟩,⟨some 109, none, .bin .mul (.t 108) (.c (.i .u32 2))⟩,⟨some 14, none, .mv (.t 106)⟩,⟨some 15, none, .mv (.t 109)⟩])
 (.seq (.regd [⟨some 110, none, .mv (.t 0)⟩,⟨some 111, none, .mv (.t 4)⟩,⟨some 112, none, .bin .sub (.t 111) (.c (.i .i64 1))⟩,⟨some 113, none, .mv (.t 0)⟩,⟨some 114, none, .mv (.t 4)⟩,⟨some 115, none, .bin .sub (.t 114) (.c (.i .i64 2))⟩,⟨some 116, none, .mv (.t 15)⟩,⟨some 117, none, .bin .add (.t 116) (.c (.i .u32 1))⟩,⟨some 118, none, .ixs (.c (.s ⟨#[48, 48, 48, 49, 48, 50, 48, 51, 48, 52, 48, 53, 48, 54, 48, 55, 48, 56, 48, 57, 49, 48, 49, 49, 49, 50, 49, 51, 49, 52, 49, 53, 49, 54, 49, 55, 49, 56, 49, 57, 50, 48, 50, 49, 50, 50, 50, 51, 50, 52, 50, 53, 50, 54, 50, 55, 50, 56, 50, 57, 51, 48, 51, 49, 51, 50, 51, 51, 51, 52, 51, 53, 51, 54, 51, 55, 51, 56, 51, 57, 52, 48, 52, 49, 52, 50, 52, 51, 52, 52, 52, 53, 52, 54, 52, 55, 52, 56, 52, 57, 53, 48, 53, 49, 53, 50, 53, 51, 53, 52, 53, 53, 53, 54, 53, 55, 53, 56, 53, 57, 54, 48, 54, 49, 54, 50, 54, 51, 54, 52, 54, 53, 54, 54, 54, 55, 54, 56, 54, 57, 55, 48, 55, 49, 55, 50, 55, 51, 55, 52, 55, 53, 55, 54, 55, 55, 55, 56, 55, 57, 56, 48, 56, 49, 56, 50, 56, 51, 56, 52, 56, 53, 56, 54, 56, 55, 56, 56, 56, 57, 57, 48, 57, 49, 57, 50, 57, 51, 57, 52, 57, 53, 57, 54, 57, 55, 57, 56, 57, 57]⟩)) (.t 117)⟩,⟨some 119, none, .mv (.t 15)⟩,⟨some 120, none, .ixs (.c (.s ⟨#[48, 48, 48, 49, 48, 50, 48, 51, 48, 52, 48, 53, 48, 54, 48, 55, 48, 56, 48, 57, 49, 48, 49, 49, 49, 50, 49, 51, 49, 52, 49, 53, 49, 54, 49, 55, 49, 56, 49, 57, 50, 48, 50, 49, 50, 50, 50, 51, 50, 52, 50, 53, 50, 54, 50, 55, 50, 56, 50, 57, 51, 48, 51, 49, 51, 50, 51, 51, 51, 52, 51, 53, 51, 54, 51, 55, 51, 56, 51, 57, 52, 48, 52, 49, 52, 50, 52, 51, 52, 52, 52, 53, 52, 54, 52, 55, 52, 56, 52, 57, 53, 48, 53, 49, 53, 50, 53, 51, 53, 52, 53, 53, 53, 54, 53, 55, 53, 56, 53, 57, 54, 48, 54, 49, 54, 50, 54, 51, 54, 52, 54, 53, 54, 54, 54, 55, 54, 56, 54, 57, 55, 48, 55, 49, 55, 50, 55, 51, 55, 52, 55, 53, 55, 54, 55, 55, 55, 56, 55, 57, 56, 48, 56, 49, 56, 50, 56, 51, 56, 52, 56, 53, 56, 54, 56, 55, 56, 56, 56, 57, 57, 48, 57, 49, 57, 50, 57, 51, 57, 52, 57, 53, 57, 54, 57, 55, 57, 56, 57, 57]⟩)) (.t 119)⟩,⟨some 121, none, .ia 1 (.t 110) (.t 112)⟩,⟨none, none, .st 1 (.t 121) (.t 118)⟩,⟨some 122, none, .ia 1 (.t 113) (.t 115)⟩,⟨none, none, .st 1 (.t 122) (.t 120)⟩] [])
 (.seq (.regd [⟨some 123, none, .mv (.t 0)⟩,⟨some 124, none, .mv (.t 4)⟩,⟨some 125, none, .bin .sub (.t 124) (.c (.i .i64 3))⟩,⟨some 126, none, .mv (.t 0)⟩,⟨some 127, none, .mv (.t 4)⟩,⟨some 128, none, .bin .sub (.t 127) (.c (.i .i64 4))⟩,⟨some 129, none, .mv (.t 14)⟩,⟨some 130, none, .bin .add (.t 129) (.c (.i .u32 1))⟩,⟨some 131, none, .ixs (.c (.s ⟨#[48, 48, 48, 49, 48, 50, 48, 51, 48, 52, 48, 53, 48, 54, 48, 55, 48, 56, 48, 57, 49, 48, 49, 49, 49, 50, 49, 51, 49, 52, 49, 53, 49, 54, 49, 55, 49, 56, 49, 57, 50, 48, 50, 49, 50, 50, 50, 51, 50, 52, 50, 53, 50, 54, 50, 55, 50, 56, 50, 57, 51, 48, 51, 49, 51, 50, 51, 51, 51, 52, 51, 53, 51, 54, 51, 55, 51, 56, 51, 57, 52, 48, 52, 49, 52, 50, 52, 51, 52, 52, 52, 53, 52, 54, 52, 55, 52, 56, 52, 57, 53, 48, 53, 49, 53, 50, 53, 51, 53, 52, 53, 53, 53, 54, 53, 55, 53, 56, 53, 57, 54, 48, 54, 49, 54, 50, 54, 51, 54, 52, 54, 53, 54, 54, 54, 55, 54, 56, 54, 57, 55, 48, 55, 49, 55, 50, 55, 51, 55, 52, 55, 53, 55, 54, 55, 55, 55, 56, 55, 57, 56, 48, 56, 49, 56, 50, 56, 51, 56, 52, 56, 53, 56, 54, 56, 55, 56, 56, 56, 57, 57, 48, 57, 49, 57, 50, 57, 51, 57, 52, 57, 53, 57, 54, 57, 55, 57, 56, 57, 57]⟩)) (.t 130)⟩,⟨some 132, none, .mv (.t 14)⟩,⟨some 133, none, .ixs (.c (.s ⟨#[48, 48, 48, 49, 48, 50, 48, 51, 48, 52, 48, 53, 48, 54, 48, 55, 48, 56, 48, 57, 49, 48, 49, 49, 49, 50, 49, 51, 49, 52, 49, 53, 49, 54, 49, 55, 49, 56, 49, 57, 50, 48, 50, 49, 50, 50, 50, 51, 50, 52, 50, 53, 50, 54, 50, 55, 50, 56, 50, 57, 51, 48, 51, 49, 51, 50, 51, 51, 51, 52, 51, 53, 51, 54, 51, 55, 51, 56, 51, 57, 52, 48, 52, 49, 52, 50, 52, 51, 52, 52, 52, 53, 52, 54, 52, 55, 52, 56, 52, 57, 53, 48, 53, 49, 53, 50, 53, 51, 53, 52, 53, 53, 53, 54, 53, 55, 53, 56, 53, 57, 54, 48, 54, 49, 54, 50, 54, 51, 54, 52, 54, 53, 54, 54, 54, 55, 54, 56, 54, 57, 55, 48, 55, 49, 55, 50, 55, 51, 55, 52, 55, 53, 55, 54, 55, 55, 55, 56, 55, 57, 56, 48, 56, 49, 56, 50, 56, 51, 56, 52, 56, 53, 56, 54, 56, 55, 56, 56, 56, 57, 57, 48, 57, 49, 57, 50, 57, 51, 57, 52, 57, 53, 57, 54, 57, 55, 57, 56, 57, 57]⟩)) (.t 132)⟩,⟨some 134, none, .ia 1 (.t 123) (.t 125)⟩,⟨none, none, .st 1 (.t 134) (.t 131)⟩,⟨some 135, none, .ia 1 (.t 126) (.t 128)⟩,⟨none, none, .st 1 (.t 135) (.t 133)⟩] [])
 (.reg [⟨some 136, none, .mv (.t 4)⟩,⟨some 137, none, .bin .sub (.t 136) (.c (.i .i64 4))⟩,⟨some 4, none, .mv (.t 137)⟩]))))))
 (.skip)))
 (.seq (.seq (.reg [⟨some 138, none, .mv (.t 4)⟩,⟨some 139, none, .bin .geq (.t 138) (.c (.i .i64 2))⟩])
 (.cond (.t 139) (.seq (.reg [⟨some 140, none, .mv (.t 12)⟩,⟨some 141, none, .bin .rem (.t 140) (.c (.i .u32 100))⟩,⟨some 142, none, .bin .mul (.t 141) (.c (.i .u32 2))⟩,⟨some 16, none, .mv (.t 142)⟩])
 (.seq (.reg [⟨some 143, none, .mv (.t 12)⟩,⟨some 144, none, .bin .quo (.t 143) (.c (.i .u32 100))⟩,⟨some 12, none, .mv (.t 144)⟩])
 (.seq (.regd [⟨some 145, none, .mv (.t 0)⟩,⟨some 146, none, .mv (.t 4)⟩,⟨some 147, none, .bin .sub (.t 146) (.c (.i .i64 1))⟩,⟨some 148, none, .mv (.t 0)⟩,⟨some 149, none, .mv (.t 4)⟩,⟨some 150, none, .bin .sub (.t 149) (.c (.i .i64 2))⟩,⟨some 151, none, .mv (.t 16)⟩,⟨some 152, none, .bin .add (.t 151) (.c (.i .u32 1))⟩,⟨some 153, none, .ixs (.c (.s ⟨#[48, 48, 48, 49, 48, 50, 48, 51, 48, 52, 48, 53, 48, 54, 48, 55, 48, 56, 48, 57, 49, 48, 49, 49, 49, 50, 49, 51, 49, 52, 49, 53, 49, 54, 49, 55, 49, 56, 49, 57, 50, 48, 50, 49, 50, 50, 50, 51, 50, 52, 50, 53, 50, 54, 50, 55, 50, 56, 50, 57, 51, 48, 51, 49, 51, 50, 51, 51, 51, 52, 51, 53, 51, 54, 51, 55, 51, 56, 51, 57, 52, 48, 52, 49, 52, 50, 52, 51, 52, 52, 52, 53, 52, 54, 52, 55, 52, 56, 52, 57, 53, 48, 53, 49, 53, 50, 53, 51, 53, 52, 53, 53, 53, 54, 53, 55, 53, 56, 53, 57, 54, 48, 54, 49, 54, 50, 54, 51, 54, 52, 54, 53, 54, 54, 54, 55, 54, 56, 54, 57, 55, 48, 55, 49, 55, 50, 55, 51, 55, 52, 55, 53, 55, 54, 55, 55, 55, 56, 55, 57, 56, 48, 56, 49, 56, 50, 56, 51, 56, 52, 56, 53, 56, 54, 56, 55, 56, 56, 56, 57, 57, 48, 57, 49, 57, 50, 57, 51, 57, 52, 57, 53, 57, 54, 57, 55, 57, 56, 57, 57]⟩)) (.t 152)⟩,⟨some 154, none, .mv (.t 16)⟩,⟨some 155, none, .ixs (.c (.s ⟨#[48, 48, 48, 49, 48, 50, 48, 51, 48, 52, 48, 53, 48, 54, 48, 55, 48, 56, 48, 57, 49, 48, 49, 49, 49, 50, 49, 51, 49, 52, 49, 53, 49, 54, 49, 55, 49, 56, 49, 57, 50, 48, 50, 49, 50, 50, 50, 51, 50, 52, 50, 53, 50, 54, 50, 55, 50, 56, 50, 57, 51, 48, 51, 49, 51, 50, 51, 51, 51, 52, 51, 53, 51, 54, 51, 55, 51, 56, 51, 57, 52, 48, 52, 49, 52, 50, 52, 51, 52, 52, 52, 53, 52, 54, 52, 55, 52, 56, 52, 57, 53, 48, 53, 49, 53, 50, 53, 51, 53, 52, 53, 53, 53, 54, 53, 55, 53, 56, 53, 57, 54, 48, 54, 49, 54, 50, 54, 51, 54, 52, 54, 53, 54, 54, 54, 55, 54, 56, 54, 57, 55, 48, 55, 49, 55, 50, 55, 51, 55, 52, 55, 53, 55, 54, 55, 55, 55, 56, 55, 57, 56, 48, 56, 49, 56, 50, 56, 51, 56, 52, 56, 53, 56, 54, 56, 55, 56, 56, 56, 57, 57, 48, 57, 49, 57, 50, 57, 51, 57, 52, 57, 53, 57, 54, 57, 55, 57, 56, 57, 57]⟩)) (.t 154)⟩,⟨some 156, none, .ia 1 (.t 145) (.t 147)⟩,⟨none, none, .st 1 (.t 156) (.t 153)⟩,⟨some 157, none, .ia 1 (.t 148) (.t 150)⟩,⟨none, none, .st 1 (.t 157) (.t 155)⟩] [])
 (.reg [⟨some 158, none, .mv (.t 4)⟩,⟨some 159, none, .bin .sub (.t 158) (.c (.i .i64 2))⟩,⟨some 4, none, .mv (.t 159)⟩]))))
 (.skip)))
 (.seq (.reg [⟨some 160, none, .mv (.t 4)⟩,⟨some 161, none, .bin .gtr (.t 160) (.c (.i .i64 0))⟩])
 (.cond (.t 161) (.reg [⟨some 162, none, .mv (.t 0)⟩,⟨some 163, none, .mv (.t 12)⟩,⟨some 164, none, .bin .add (.c (.i .u32 48)) (.t 163)⟩,⟨some 165, none, .cvi .u8 (.t 164)⟩,⟨some 166, none, .ia 1 (.t 162) (.c (.i .i64 0))⟩,⟨none, none, .st 1 (.t 166) (.t 165)⟩])
 (.skip)))))))
theorem fn178 : F 178 = .go 167 [] v178 := by rw [F, fnOf, Tryz.func178]; kernel_rfl

def v182 : VC :=
 .seq (.reg [oi 4 0])
 (.seq (.reg [oa 5 0,oa 6 1,⟨some 7, none, .call 240 [(xt 5), (xt 6)]⟩,oa 4 7])
 (.ret))
theorem fn182 : F 182 = .go 8 [.t 4] v182 := by rw [F, fnOf, Tryz.func182]; kernel_rfl

def v183 : VC :=
 .seq (.reg [⟨some 4, none, .mv (.c (.b false))⟩])
 (.seq (.reg [oa 5 0,⟨some 6, none, .len 0 (xt 5)⟩,oa 7 1,⟨some 8, none, .len 0 (xt 7)⟩,ob 9 .geq 6 8,oa 10 9,ot 11 10 0,ot 12 10 0,⟨some 13, yt 10, .len 0 (xt 12)⟩,ot 14 10 1,⟨some 15, yt 10, .len 0 (xt 14)⟩,⟨some 16, yt 10, .bin .sub (xt 13) (xt 15)⟩,⟨some 17, yt 10, .sls (xt 11) (some (xt 16)) none⟩,ot 18 10 1,⟨some 19, yt 10, .bin .eql (xt 17) (xt 18)⟩,⟨some 20, none, .pick (xt 10) (xt 19) (.c (.b false))⟩,oa 4 20])
 (.ret))
theorem fn183 : F 183 = .go 21 [.t 4] v183 := by rw [F, fnOf, Tryz.func183]; kernel_rfl

def v184 : VC :=
 .seq (.reg [⟨some 4, none, .mv (.c (.sl none 0 0 true))⟩])
 (.seq (.reg [⟨some 12, none, .mks 2 16 [z0, z0] (xi 0) (xi 32)⟩,oa 5 12])
 (.seq (.reg [oi 6 (-1)])
 (.seq (.seq (.reg [oa 13 0,⟨some 14, none, .rgs (xt 13)⟩])
 (.blk 0 (.loop (.seq (.reg [⟨some 15, none, .nxs (xt 14)⟩,oe 16 15 0])
 (.seq (.cond (xt 16) (.skip)
 (.exit 0))
 (.blk 1 (.seq (.reg [oe 17 15 1,oe 18 15 2,oa 7 17,oa 8 18])
 (.seq (.reg [oa 19 1,oa 20 8,⟨some 21, none, .cv (xt 19) [(xt 20)]⟩])
 (.cond (xt 21) (.seq (.reg [oa 22 6,⟨some 23, none, .bin .geq (xt 22) (xi 0)⟩])
 (.cond (xt 23) (.seq (.reg [oa 24 5,oa 25 6,oa 26 7,⟨some 27, none, .build [z0, z0] [(0, 1, (xt 25)), (1, 1, (xt 26))]⟩,⟨some 28, none, .bsl 2 1 [z0, z0] [(0, 2, (xt 27))]⟩,⟨some 29, none, .app ⟨2, (some 329)⟩ 16 (xt 24) (xt 28)⟩,oa 5 29])
 (.reg [oa 30 6,⟨some 31, none, .un .xor (xt 30)⟩,oa 6 31]))
 (.skip)))
 (.seq (.reg [oa 32 6,⟨some 33, none, .bin .lss (xt 32) (xi 0)⟩])
 (.cond (xt 33) (.reg [oa 34 7,oa 6 34])
 (.skip))))))))))))
 (.seq (.seq (.reg [oa 35 6,⟨some 36, none, .bin .geq (xt 35) (xi 0)⟩])
 (.cond (xt 36) (.reg [oa 37 5,oa 38 6,oa 39 0,⟨some 40, none, .len 0 (xt 39)⟩,⟨some 41, none, .build [z0, z0] [(0, 1, (xt 38)), (1, 1, (xt 40))]⟩,⟨some 42, none, .bsl 2 1 [z0, z0] [(0, 2, (xt 41))]⟩,⟨some 43, none, .app ⟨2, (some 329)⟩ 16 (xt 37) (xt 42)⟩,oa 5 43])
 (.skip)))
 (.seq (.reg [oa 44 5,oz 45 44,⟨some 46, none, .mks 1 16 [(.s ⟨#[]⟩)] (xt 45) (xt 45)⟩,oa 9 46])
 (.seq (.seq (.reg [oa 47 5,oz 48 47,oi 49 0])
 (.blk 2 (.loop (.seq (.reg [ob 50 .lss 49 48])
 (.seq (.cond (xt 50) (.skip)
 (.exit 2))
 (.seq (.blk 3 (.seq (.reg [oa 51 49,⟨some 52, none, .ia 2 (xt 47) (xt 49)⟩,od 53 2 52,⟨some 11, none, .alloc 329 [z0, z0]⟩,oa 10 51,os 2 11 53])
 (.reg [oa 54 9,oa 55 10,oa 56 0,of 57 0 11,ol 58 57,of 59 1 11,ol 60 59,⟨some 61, none, .sls (xt 56) (some (xt 58)) (some (xt 60))⟩,⟨some 62, none, .ia 1 (xt 54) (xt 55)⟩,os 1 62 61])))
 (.reg [⟨some 63, none, .bin .add (xt 49) (xi 1)⟩,oa 49 63])))))))
 (.seq (.reg [oa 64 9,oa 4 64])
 (.ret))))))))
theorem fn184 : F 184 = .go 65 [.t 4] v184 := by rw [F, fnOf, Tryz.func184]; kernel_rfl

def v185 : VC :=
 .seq (.reg [⟨some 2, none, .mv (.c (.b false))⟩])
 (.seq (.reg [oa 3 0,⟨some 4, none, .bin .eql (xt 3) (.c (.i .i32 32))⟩,oa 5 4,on 6 5 0,⟨some 7, yn 5, .bin .eql (xt 6) (.c (.i .i32 9))⟩,⟨some 8, none, .pick (xt 5) (.c (.b true)) (xt 7)⟩,oa 2 8])
 (.ret))
theorem fn185 : F 185 = .go 9 [.t 2] v185 := by rw [F, fnOf, Tryz.func185]; kernel_rfl

def v189 : VC :=
 .seq (.reg [⟨some 4, none, .mv (.c .ni)⟩])
 (.seq (.reg [oa 5 0,⟨some 6, none, .call 126 [(xt 5)]⟩])
 (.seq (.reg [oa 7 0,oa 8 0,oc 9 8,of 10 1 9,ol 11 10,oa 12 1,⟨some 13, none, .bsl 1 1 [(.i .u8 0)] [(0, 1, (xt 12))]⟩,⟨some 14, none, .app ⟨1, (some 5)⟩ 1 (xt 11) (xt 13)⟩,oc 15 7,of 16 1 15,os 1 16 14])
 (.seq (.reg [⟨some 4, none, .mv (.c .ni)⟩])
 (.ret))))
theorem fn189 : F 189 = .go 17 [.t 4] v189 := by rw [F, fnOf, Tryz.func189]; kernel_rfl

def v190 : VC :=
 .seq (.reg [⟨some 2, none, .box 10 (xt 0)⟩,⟨some 3, none, .box 8 (xt 1)⟩,⟨some 4, none, .mv (.c (.s ⟨#[]⟩))⟩])
 (.seq (.blk 0 (.seq (.reg [of 6 2 3,ol 7 6,⟨some 8, none, .bin .eql (xt 7) (xi 3)⟩,oa 5 8])
 (.cond (xt 5) (.seq (.reg [⟨some 4, none, .mv (.c (.s ⟨#[116, 104, 101, 32, 116, 117, 114, 110, 32, 116, 111, 111, 107, 32, 110, 111, 116, 104, 105, 110, 103]⟩))⟩])
 (.ret))
 (.seq (.reg [of 10 0 2,ol 11 10,⟨some 12, none, .bin .eql (xt 11) (xi 10)⟩,oa 9 12])
 (.cond (xt 9) (.seq (.reg [⟨some 4, none, .mv (.c (.s ⟨#[102, 97, 105, 108, 115, 32, 116, 111, 32, 98, 101, 32, 115, 111, 32, 102, 97, 114, 32, 98, 97, 99, 107, 32, 97, 116, 32]⟩))⟩])
 (.ret))
 (.seq (.reg [of 14 0 2,ol 15 14,⟨some 16, none, .bin .eql (xt 15) (xi 4)⟩,oa 13 16])
 (.cond (xt 13) (.seq (.reg [of 17 3 2,ol 18 17,⟨some 19, none, .call 37 [(xt 18)]⟩,⟨some 20, none, .bin .add (.c (.s ⟨#[103, 114, 111, 117, 112, 32]⟩)) (xt 19)⟩,⟨some 21, none, .bin .add (xt 20) (.c (.s ⟨#[32, 102, 97, 105, 108, 115, 32, 97, 116, 32]⟩))⟩,oa 4 21])
 (.ret))
 (.skip))))))))
 (.seq (.reg [⟨some 4, none, .mv (.c (.s ⟨#[102, 97, 105, 108, 115, 32, 97, 116, 32]⟩))⟩])
 (.ret)))
theorem fn190 : F 190 = .go 22 [.t 4] v190 := by rw [F, fnOf, Tryz.func190]; kernel_rfl

def v191 : VC :=
 .seq (.reg [⟨some 4, none, .mv (.c (.b false))⟩])
 (.seq (.reg [oa 5 0,oa 6 1,⟨some 7, none, .call 183 [(xt 5), (xt 6)]⟩,oa 4 7])
 (.ret))
theorem fn191 : F 191 = .go 8 [.t 4] v191 := by rw [F, fnOf, Tryz.func191]; kernel_rfl

def v196 : VC :=
 .seq (.reg [⟨some 6, none, .mv (.c (.b false))⟩])
 (.seq (.reg [oa 7 0,oa 8 1,ob 9 .geq 7 8,oa 10 9,ot 11 10 0,ot 12 10 2,⟨some 13, yt 10, .bin .leq (xt 11) (xt 12)⟩,⟨some 14, none, .pick (xt 10) (xt 13) (.c (.b false))⟩,oa 6 14])
 (.ret))
theorem fn196 : F 196 = .go 15 [.t 6] v196 := by rw [F, fnOf, Tryz.func196]; kernel_rfl

def v197 : VC :=
 .seq (.reg [⟨some 4, none, .mv (.c (.b false))⟩])
 (.seq (.reg [oa 5 0,oa 6 1,⟨some 7, none, .call 249 [(xt 5), (xt 6)]⟩,⟨some 8, none, .bin .geq (xt 7) (xi 0)⟩,oa 4 8])
 (.ret))
theorem fn197 : F 197 = .go 9 [.t 4] v197 := by rw [F, fnOf, Tryz.func197]; kernel_rfl

def v198 : VC :=
 .seq (.reg [⟨some 2, none, .mv (.c (.b false))⟩])
 (.seq (.reg [oa 3 0,⟨some 4, none, .call 196 [(xt 3), (xi (-1)), (xi 65536)]⟩,⟨some 5, none, .un .not (xt 4)⟩,oa 2 5])
 (.ret))
theorem fn198 : F 198 = .go 6 [.t 2] v198 := by rw [F, fnOf, Tryz.func198]; kernel_rfl

def v199 : VC :=
 .seq (.reg [⟨some 1, none, .box 8 (xt 0)⟩,⟨some 2, none, .alloc 285 [z0, z0, z0, z0, z0, z0]⟩])
 (.seq (.reg [of 3 1 1,ol 4 3,of 5 2 1,ol 6 5,of 7 3 1,ol 8 7,of 9 4 1,ol 10 9,of 11 5 1,ol 12 11,of 13 6 1,ol 14 13,⟨some 15, none, .build [z0, z0, z0, z0, z0, z0] [(0, 1, (xt 4)), (1, 1, (xt 6)), (2, 1, (xt 8)), (3, 1, (xt 10)), (4, 1, (xt 12)), (5, 1, (xt 14))]⟩,os 6 2 15])
 (.ret))
theorem fn199 : F 199 = .go 16 [.c 2 (some 6)] v199 := by rw [F, fnOf, Tryz.func199]; kernel_rfl

def v200 : VC :=
 .seq (.reg [⟨some 2, none, .mv (.c (.sl none 0 0 true))⟩])
 (.seq (.reg [oa 3 0,⟨some 4, none, .call 250 [(xt 3)]⟩,⟨some 5, none, .call 105 [(xt 4)]⟩,oa 2 5])
 (.ret))
theorem fn200 : F 200 = .go 6 [.t 2] v200 := by rw [F, fnOf, Tryz.func200]; kernel_rfl

def v201 : VC :=
 .seq (.reg [⟨some 4, none, .mv (.c (.sl none 0 0 true))⟩])
 (.seq (.reg [⟨some 5, none, .mv (.c (.sl none 0 0 true))⟩])
 (.seq (.reg [oi 6 0,oi 7 0])
 (.seq (.seq (.reg [oa 10 1,oz 11 10,oi 12 0])
 (.blk 0 (.loop (.seq (.reg [ob 13 .lss 12 11])
 (.seq (.cond (xt 13) (.skip)
 (.exit 0))
 (.seq (.blk 1 (.seq (.reg [oa 14 12,⟨some 15, none, .ia 1 (xt 10) (xt 12)⟩,ol 16 15,oa 8 14,oa 9 16])
 (.seq (.seq (.reg [oa 17 9,oa 18 0,oa 19 8,⟨some 20, none, .ia 1 (xt 18) (xt 19)⟩,ol 21 20,ob 22 .eql 17 21])
 (.cond (xt 22) (.exit 1)
 (.skip)))
 (.seq (.reg [oa 23 5,oa 24 8,oa 25 7,ob 26 .sub 24 25,⟨some 27, none, .cvi .u64 (xt 26)⟩,⟨some 28, none, .call 105 [(xt 27)]⟩,⟨some 29, none, .app ⟨1, (some 5)⟩ 1 (xt 23) (xt 28)⟩,oa 5 29])
 (.seq (.reg [oa 30 5,oa 31 9,oa 32 0,oa 33 8,⟨some 34, none, .ia 1 (xt 32) (xt 33)⟩,ol 35 34,ob 36 .sub 31 35,⟨some 37, none, .call 200 [(xt 36)]⟩,⟨some 38, none, .app ⟨1, (some 5)⟩ 1 (xt 30) (xt 37)⟩,oa 5 38])
 (.reg [oa 39 6,⟨some 40, none, .bin .add (xt 39) (xi 1)⟩,oa 41 8,⟨some 42, none, .bin .add (xt 41) (xi 1)⟩,oa 6 40,oa 7 42]))))))
 (.reg [⟨some 43, none, .bin .add (xt 12) (xi 1)⟩,oa 12 43])))))))
 (.seq (.reg [oa 44 6,⟨some 45, none, .cvi .u64 (xt 44)⟩,⟨some 46, none, .call 105 [(xt 45)]⟩,oa 47 5,⟨some 48, none, .app ⟨1, (some 5)⟩ 1 (xt 46) (xt 47)⟩,oa 4 48])
 (.ret)))))
theorem fn201 : F 201 = .go 49 [.t 4] v201 := by rw [F, fnOf, Tryz.func201]; kernel_rfl

def v202 : VC :=
 .seq (.reg [⟨some 4, none, .alloc 232 [z0, z0, z0, z0, z0, z0, z0, (.s ⟨#[]⟩), (.sl none 0 0 true), (.sl none 0 0 true), (.sl none 0 0 true)]⟩])
 (.seq (.reg [oa 7 0,oc 8 7,of 9 1 8,ol 10 9,oa 5 10])
 (.seq (.reg [⟨some 6, none, .mv (.c (.sl none 0 0 true))⟩])
 (.seq (.blk 0 (.loop (.seq (.seq (.reg [oa 11 0,⟨some 12, none, .call 251 [(xt 11)]⟩,⟨some 13, none, .un .not (xt 12)⟩])
 (.cond (xt 13) (.skip)
 (.exit 0)))
 (.blk 1 (.reg [oa 14 6,oa 15 0,oa 16 1,⟨some 17, none, .call 252 [(xt 15), (xt 16)]⟩,⟨some 18, none, .app ⟨11, (some 232)⟩ 144 (xt 14) (xt 17)⟩,oa 6 18])))))
 (.seq (.seq (.reg [oa 19 6,oz 20 19])
 (.blk 2 (.seq (.reg [⟨some 22, none, .bin .eql (xt 20) (xi 0)⟩,oa 21 22])
 (.cond (xt 21) (.seq (.reg [oa 23 5,oa 24 5,⟨some 25, none, .build [z0, z0, z0, z0, z0, z0, z0, (.s ⟨#[]⟩), (.sl none 0 0 true), (.sl none 0 0 true)] [(0, 1, (xi 1)), (1, 1, (xt 23)), (2, 1, (xt 24))]⟩,⟨some 26, none, .build [z0, z0, z0, z0, z0, z0, z0, (.s ⟨#[]⟩), (.sl none 0 0 true), (.sl none 0 0 true), (.sl none 0 0 true)] [(0, 10, (xt 25))]⟩,os 11 4 26])
 (.ret))
 (.seq (.reg [⟨some 28, none, .bin .eql (xt 20) (xi 1)⟩,oa 27 28])
 (.cond (xt 27) (.seq (.reg [oa 29 6,⟨some 30, none, .ia 11 (xt 29) (xi 0)⟩,od 31 11 30,os 11 4 31])
 (.ret))
 (.skip)))))))
 (.seq (.regd [oa 32 6,⟨some 33, none, .ia 11 (xt 32) (xi 0)⟩,of 34 0 33,of 35 1 34,ol 36 35,oa 37 6,oa 38 6,oz 39 38,⟨some 40, none, .bin .sub (xt 39) (xi 1)⟩,⟨some 41, none, .ia 11 (xt 37) (xt 40)⟩,of 42 0 41,of 43 2 42,ol 44 43,⟨some 45, none, .build [z0, z0, z0, z0, z0, z0, z0, (.s ⟨#[]⟩), (.sl none 0 0 true), (.sl none 0 0 true)] [(0, 1, (xi 5)), (1, 1, (xt 36)), (2, 1, (xt 44))]⟩,oa 46 6,⟨some 47, none, .build [z0, z0, z0, z0, z0, z0, z0, (.s ⟨#[]⟩), (.sl none 0 0 true), (.sl none 0 0 true), (.sl none 0 0 true)] [(0, 10, (xt 45)), (10, 1, (xt 46))]⟩,os 11 4 47] [])
 (.ret))))))
theorem fn202 : F 202 = .go 48 [.c 4 (some 11)] v202 := by rw [F, fnOf, Tryz.func202]; kernel_rfl

def v203 : VC :=
 .seq (.reg [⟨some 4, none, .mv (.c (.i .u8 0))⟩])
 (.seq (.seq (.reg [oa 5 1,oa 6 0,oc 7 6,of 8 0 7,ol 9 8,oz 10 9,ob 11 .geq 5 10])
 (.cond (xt 11) (.seq (.reg [⟨some 4, none, .mv (.c (.i .u8 0))⟩])
 (.ret))
 (.skip)))
 (.seq (.reg [oa 12 0,oc 13 12,of 14 0 13,ol 15 14,oa 16 1,⟨some 17, none, .ia 1 (xt 15) (xt 16)⟩,ol 18 17,oa 4 18])
 (.ret)))
theorem fn203 : F 203 = .go 19 [.t 4] v203 := by rw [F, fnOf, Tryz.func203]; kernel_rfl

def v204 : VC :=
 .seq (.reg [oi 3 0])
 (.blk 0 (.loop (.seq (.seq (.reg [oa 6 3,ol 7 1,oz 8 7,ob 9 .lss 6 8])
 (.cond (xt 9) (.skip)
 (.exit 0)))
 (.blk 1 (.seq (.reg [ol 11 1,oa 12 3,⟨some 13, none, .call 205 [(xt 11), (xt 12)]⟩,oa 10 13,oe 14 10 0,oe 15 10 1,oa 4 14,oa 5 15])
 (.seq (.seq (.reg [oa 16 0,oa 17 3,oa 18 4,⟨some 19, none, .cv (xt 16) [(xt 17), (xt 18)]⟩,⟨some 20, none, .un .not (xt 19)⟩])
 (.cond (xt 20) (.ret)
 (.skip)))
 (.reg [oa 21 3,oa 22 5,ob 23 .add 21 22,oa 3 23])))))))
theorem fn204 : F 204 = .go 24 [] v204 := by rw [F, fnOf, Tryz.func204]; kernel_rfl

def v205 : VC :=
 .seq (.reg [oi 4 0,oi 5 0])
 (.seq (.seq (.reg [oa 8 1,⟨some 9, none, .bin .lss (xt 8) (xi 0)⟩,oa 10 9,on 11 10 1,on 12 10 0,⟨some 13, yn 10, .len 1 (xt 12)⟩,⟨some 14, yn 10, .bin .geq (xt 11) (xt 13)⟩,⟨some 15, none, .pick (xt 10) (.c (.b true)) (xt 14)⟩])
 (.cond (xt 15) (.seq (.reg [oi 4 0,oi 5 0])
 (.ret))
 (.skip)))
 (.seq (.reg [oa 17 0,oa 18 1,⟨some 19, none, .slc 1 (xt 17) (some (xt 18)) none none⟩,⟨some 20, none, .call 253 [(xt 19)]⟩,oa 16 20,oe 21 16 0,oe 22 16 1,oa 6 21,oa 7 22])
 (.seq (.seq (.reg [oa 23 6,⟨some 24, none, .bin .eql (xt 23) (.c (.i .i32 65533))⟩,oa 25 24,ot 26 25 7,⟨some 27, yt 25, .bin .leq (xt 26) (xi 1)⟩,⟨some 28, none, .pick (xt 25) (xt 27) (.c (.b false))⟩])
 (.cond (xt 28) (.seq (.reg [oa 29 0,oa 30 1,⟨some 31, none, .ia 1 (xt 29) (xt 30)⟩,ol 32 31,⟨some 33, none, .cvi .i64 (xt 32)⟩,⟨some 34, none, .bin .add (xi 1114112) (xt 33)⟩,oa 4 34,oi 5 1])
 (.ret))
 (.skip)))
 (.seq (.reg [oa 35 6,⟨some 36, none, .cvi .i64 (xt 35)⟩,oa 37 7,oa 4 36,oa 5 37])
 (.ret)))))
theorem fn205 : F 205 = .go 38 [.t 4, .t 5] v205 := by rw [F, fnOf, Tryz.func205]; kernel_rfl

def v206 : VC :=
 .seq (.reg [⟨some 3, none, .box 2 (xt 0)⟩,⟨some 6, none, .alloc 242 [z0, z0]⟩])
 (.seq (.reg [of 8 0 3,ol 9 8,oa 10 1,ob 11 .mul 9 10,⟨some 12, none, .mn [(xt 11), (xi 1048576)]⟩,⟨some 13, none, .build [z0, z0] [(0, 1, (xt 12))]⟩,⟨some 7, none, .alloc 242 [z0, z0]⟩,os 2 7 13])
 (.seq (.blk 0 (.seq (.reg [of 21 1 3,ol 22 21,⟨some 23, none, .bin .eql (xt 22) (xi 0)⟩,oa 20 23])
 (.cond (xt 20) (.skip)
 (.seq (.reg [of 25 1 3,ol 26 25,⟨some 27, none, .bin .eql (xt 26) (xi (-1))⟩,oa 28 27,on 29 28 2,⟨some 30, yn 28, .bin .eql (xt 29) (xi (-1))⟩,⟨some 31, none, .pick (xt 28) (.c (.b true)) (xt 30)⟩,oa 24 31])
 (.cond (xt 24) (.reg [of 32 1 7,⟨none, none, .st 1 (xt 32) (xi (-1))⟩])
 (.reg [of 14 1 3,ol 15 14,oa 16 2,ob 17 .mul 15 16,⟨some 18, none, .call 254 [(xt 17)]⟩,of 19 1 7,os 1 19 18]))))))
 (.seq (.reg [od 33 2 7,os 2 6 33])
 (.ret))))
theorem fn206 : F 206 = .go 34 [.c 6 (some 2)] v206 := by rw [F, fnOf, Tryz.func206]; kernel_rfl

def v207 : VC :=
 .seq (.reg [⟨some 2, none, .box 2 (xt 0)⟩,⟨some 3, none, .box 2 (xt 1)⟩,⟨some 4, none, .alloc 242 [z0, z0]⟩])
 (.seq (.reg [of 6 0 2,ol 7 6,of 8 0 3,ol 9 8,ob 10 .add 7 9,⟨some 11, none, .mn [(xt 10), (xi 1048576)]⟩,⟨some 12, none, .build [z0, z0] [(0, 1, (xt 11)), (1, 1, (xi (-1)))]⟩,⟨some 5, none, .alloc 242 [z0, z0]⟩,os 2 5 12])
 (.seq (.seq (.reg [of 13 1 2,ol 14 13,⟨some 15, none, .bin .neq (xt 14) (xi (-1))⟩,oa 16 15,⟨some 17, yt 16, .fa 1 (xt 3)⟩,⟨some 18, yt 16, .ld (xt 17)⟩,⟨some 19, yt 16, .bin .neq (xt 18) (xi (-1))⟩,⟨some 20, none, .pick (xt 16) (xt 19) (.c (.b false))⟩])
 (.cond (xt 20) (.reg [of 21 1 2,ol 22 21,of 23 1 3,ol 24 23,ob 25 .add 22 24,⟨some 26, none, .call 254 [(xt 25)]⟩,of 27 1 5,os 1 27 26])
 (.skip)))
 (.seq (.reg [od 28 2 5,os 2 4 28])
 (.ret))))
theorem fn207 : F 207 = .go 29 [.c 4 (some 2)] v207 := by rw [F, fnOf, Tryz.func207]; kernel_rfl

def v209 : VC :=
 .seq (.reg [oi 6 0])
 (.seq (.reg [oa 8 0,oa 9 1,⟨some 10, none, .call 114 [(xt 8), (xt 9), (xi 5), (xi (-1)), (xi 0), (xi 0)]⟩,oa 7 10])
 (.seq (.reg [oa 11 0,oc 12 11,of 13 0 12,of 14 0 13,ol 15 14,oa 16 7,oa 17 2,⟨some 18, none, .ia 6 (xt 15) (xt 16)⟩,of 19 5 18,os 1 19 17])
 (.seq (.reg [oa 20 7,oa 6 20])
 (.ret))))
theorem fn209 : F 209 = .go 21 [.t 6] v209 := by rw [F, fnOf, Tryz.func209]; kernel_rfl

def v210 : VC :=
 .seq (.reg [⟨some 4, none, .mv (.c (.b false))⟩])
 (.seq (.seq (.reg [oa 6 0,oz 7 6,oa 8 1,oz 9 8,ob 10 .neq 7 9])
 (.cond (xt 10) (.seq (.reg [⟨some 4, none, .mv (.c (.b false))⟩])
 (.ret))
 (.skip)))
 (.seq (.seq (.reg [oa 11 0,oz 12 11,oi 13 0])
 (.blk 0 (.loop (.seq (.reg [ob 14 .lss 13 12])
 (.seq (.cond (xt 14) (.skip)
 (.exit 0))
 (.seq (.blk 1 (.seq (.reg [oa 15 13,oa 5 15])
 (.seq (.regd [oa 16 0,oa 17 5,⟨some 18, none, .ia 2 (xt 16) (xt 17)⟩,od 19 2 18,oa 20 1,oa 21 5,⟨some 22, none, .ia 2 (xt 20) (xt 21)⟩,od 23 2 22,⟨some 24, none, .eqa true [(0, .i), (1, .i)] (xt 19) (xt 23)⟩] [])
 (.cond (xt 24) (.seq (.reg [⟨some 4, none, .mv (.c (.b false))⟩])
 (.ret))
 (.skip)))))
 (.reg [⟨some 25, none, .bin .add (xt 13) (xi 1)⟩,oa 13 25])))))))
 (.seq (.reg [⟨some 4, none, .mv (.c (.b true))⟩])
 (.ret))))
theorem fn210 : F 210 = .go 26 [.t 4] v210 := by rw [F, fnOf, Tryz.func210]; kernel_rfl

def v211 : VC :=
 .seq (.reg [⟨some 2, none, .mv (.c (.sl none 0 0 true))⟩])
 (.seq (.reg [⟨some 3, none, .mv (.c (.sl none 0 0 true))⟩])
 (.seq (.seq (.reg [oa 12 0,oz 13 12,oi 14 0])
 (.blk 0 (.loop (.seq (.reg [ob 15 .lss 14 13])
 (.seq (.cond (xt 15) (.skip)
 (.exit 0))
 (.seq (.blk 1 (.seq (.reg [⟨some 16, none, .ia 2 (xt 12) (xt 14)⟩,od 17 2 16,⟨some 5, none, .alloc 295 [z0, z0]⟩,os 2 5 17])
 (.seq (.reg [od 19 2 5,⟨some 20, none, .call 255 [(xt 19)]⟩,oa 18 20,oe 21 18 0,oe 22 18 1,⟨some 6, none, .alloc 295 [z0, z0]⟩,os 2 6 21,oa 7 22])
 (.seq (.reg [oa 23 7])
 (.cond (xt 23) (.reg [oa 24 3,od 25 2 6,⟨some 26, none, .bsl 2 1 [z0, z0] [(0, 2, (xt 25))]⟩,⟨some 27, none, .app ⟨2, (some 295)⟩ 16 (xt 24) (xt 26)⟩,oa 3 27])
 (.skip))))))
 (.reg [⟨some 28, none, .bin .add (xt 14) (xi 1)⟩,oa 14 28])))))))
 (.seq (.reg [oa 29 3,⟨some 30, none, .call 256 [(xt 29), (.c (.f 257 [] []))]⟩])
 (.seq (.reg [⟨some 8, none, .mv (.c (.sl none 0 0 true))⟩])
 (.seq (.seq (.reg [oa 31 3,oz 32 31,oi 33 0])
 (.blk 2 (.loop (.seq (.reg [ob 34 .lss 33 32])
 (.seq (.cond (xt 34) (.skip)
 (.exit 2))
 (.seq (.blk 3 (.seq (.reg [⟨some 35, none, .ia 2 (xt 31) (xt 33)⟩,od 36 2 35,⟨some 10, none, .alloc 295 [z0, z0]⟩,os 2 10 36])
 (.seq (.reg [oa 37 8,oz 38 37,oa 11 38])
 (.seq (.seq (.regd [oa 39 11,⟨some 40, none, .bin .gtr (xt 39) (xi 0)⟩,oa 41 40,⟨some 42, yt 41, .fa 0 (xt 10)⟩,⟨some 43, yt 41, .ld (xt 42)⟩,ot 44 41 8,ot 45 41 11,⟨some 46, yt 41, .bin .sub (xt 45) (xi 1)⟩,⟨some 47, yt 41, .ia 2 (xt 44) (xt 46)⟩,⟨some 48, yt 41, .fa 1 (xt 47)⟩,⟨some 49, yt 41, .ld (xt 48)⟩,⟨some 50, yt 41, .bin .add (xt 49) (xi 1)⟩,⟨some 51, yt 41, .bin .leq (xt 43) (xt 50)⟩,⟨some 52, none, .pick (xt 41) (xt 51) (.c (.b false))⟩] [])
 (.cond (xt 52) (.seq (.regd [oa 53 8,oa 54 11,⟨some 55, none, .bin .sub (xt 54) (xi 1)⟩,oa 56 8,oa 57 11,⟨some 58, none, .bin .sub (xt 57) (xi 1)⟩,⟨some 59, none, .ia 2 (xt 56) (xt 58)⟩,of 60 1 59,ol 61 60,of 62 1 10,ol 63 62,⟨some 64, none, .mx [(xt 61), (xt 63)]⟩,⟨some 65, none, .ia 2 (xt 53) (xt 55)⟩,of 66 1 65,os 1 66 64] [])
 (.exit 3))
 (.skip)))
 (.reg [oa 67 8,od 68 2 10,⟨some 69, none, .bsl 2 1 [z0, z0] [(0, 2, (xt 68))]⟩,⟨some 70, none, .app ⟨2, (some 295)⟩ 16 (xt 67) (xt 69)⟩,oa 8 70])))))
 (.reg [⟨some 71, none, .bin .add (xt 33) (xi 1)⟩,oa 33 71])))))))
 (.seq (.reg [oa 72 8,oa 2 72])
 (.ret)))))))
theorem fn211 : F 211 = .go 73 [.t 2] v211 := by rw [F, fnOf, Tryz.func211]; kernel_rfl

def v212 : VC :=
 .seq (.reg [⟨some 3, none, .box 4 (xt 0)⟩,⟨some 5, none, .box 6 (xt 2)⟩,⟨some 6, none, .mv (.c (.b false))⟩])
 (.seq (.seq (.reg [of 7 0 5,ol 8 7])
 (.blk 0 (.seq (.reg [⟨some 10, none, .bin .eql (xt 8) (xi 4)⟩,oa 9 10])
 (.cond (xt 9) (.seq (.reg [od 11 4 3,oa 12 1,of 13 1 5,ol 14 13,⟨some 15, none, .call 260 [(xt 11), (xt 12), (xt 14)]⟩,oa 16 15,⟨some 17, yt 16, .ldn 4 (xt 3)⟩,⟨some 18, yt 16, .fa 1 (xt 5)⟩,⟨some 19, yt 16, .ld (xt 18)⟩,⟨some 20, yt 16, .call 261 [(xt 17), (xt 19), (xi 5)]⟩,⟨some 21, none, .pick (xt 16) (xt 20) (.c (.b false))⟩,oa 22 21,⟨some 23, yt 22, .fa 2 (xt 5)⟩,⟨some 24, yt 22, .ld (xt 23)⟩,⟨some 25, yt 22, .bin .eql (xt 24) (xi 0)⟩,⟨some 26, none, .pick (xt 22) (xt 25) (.c (.b false))⟩,oa 27 26,⟨some 28, yt 27, .fa 3 (xt 5)⟩,⟨some 29, yt 27, .ld (xt 28)⟩,⟨some 30, yt 27, .bin .eql (xt 29) (xi 0)⟩,⟨some 31, none, .pick (xt 27) (xt 30) (.c (.b false))⟩,oa 6 31])
 (.ret))
 (.seq (.reg [⟨some 33, none, .bin .eql (xt 8) (xi 5)⟩,oa 32 33])
 (.cond (xt 32) (.seq (.reg [of 34 1 5,ol 35 34,⟨some 36, none, .bin .eql (xt 35) (xi (-1))⟩,oa 37 36,⟨some 38, yn 37, .ldn 4 (xt 3)⟩,on 39 37 1,⟨some 40, yn 37, .fa 1 (xt 5)⟩,⟨some 41, yn 37, .ld (xt 40)⟩,⟨some 42, yn 37, .call 260 [(xt 38), (xt 39), (xt 41)]⟩,on 43 37 42,⟨some 44, yt 43, .ldn 4 (xt 3)⟩,⟨some 45, yt 43, .fa 1 (xt 5)⟩,⟨some 46, yt 43, .ld (xt 45)⟩,⟨some 47, yt 43, .call 261 [(xt 44), (xt 46), (xi 5)]⟩,⟨some 48, yn 37, .pick (xt 43) (xt 47) (.c (.b false))⟩,⟨some 49, none, .pick (xt 37) (.c (.b true)) (xt 48)⟩,oa 50 49,⟨some 51, yt 50, .fa 2 (xt 5)⟩,⟨some 52, yt 50, .ld (xt 51)⟩,⟨some 53, yt 50, .bin .eql (xt 52) (xi 0)⟩,⟨some 54, none, .pick (xt 50) (xt 53) (.c (.b false))⟩,oa 55 54,⟨some 56, yt 55, .fa 3 (xt 5)⟩,⟨some 57, yt 55, .ld (xt 56)⟩,⟨some 58, yt 55, .bin .eql (xt 57) (xi 0)⟩,⟨some 59, none, .pick (xt 55) (xt 58) (.c (.b false))⟩,oa 6 59])
 (.ret))
 (.seq (.reg [⟨some 61, none, .bin .eql (xt 8) (xi 6)⟩,oa 60 61])
 (.cond (xt 60) (.seq (.reg [od 62 4 3,oa 63 1,of 64 1 5,ol 65 64,⟨some 66, none, .call 260 [(xt 62), (xt 63), (xt 65)]⟩,oa 67 66,⟨some 68, yt 67, .fa 2 (xt 5)⟩,⟨some 69, yt 67, .ld (xt 68)⟩,⟨some 70, yt 67, .bin .eql (xt 69) (xi 0)⟩,⟨some 71, none, .pick (xt 67) (xt 70) (.c (.b false))⟩,oa 72 71,⟨some 73, yt 72, .fa 3 (xt 5)⟩,⟨some 74, yt 72, .ld (xt 73)⟩,⟨some 75, yt 72, .bin .eql (xt 74) (xi 0)⟩,⟨some 76, none, .pick (xt 72) (xt 75) (.c (.b false))⟩,oa 6 76])
 (.ret))
 (.seq (.reg [⟨some 78, none, .bin .eql (xt 8) (xi 13)⟩,oa 77 78])
 (.cond (xt 77) (.seq (.reg [of 79 1 5,ol 80 79,⟨some 81, none, .bin .eql (xt 80) (xi (-1))⟩,oa 82 81,⟨some 83, yn 82, .ldn 4 (xt 3)⟩,on 84 82 1,⟨some 85, yn 82, .fa 1 (xt 5)⟩,⟨some 86, yn 82, .ld (xt 85)⟩,⟨some 87, yn 82, .call 260 [(xt 83), (xt 84), (xt 86)]⟩,⟨some 88, none, .pick (xt 82) (.c (.b true)) (xt 87)⟩,oa 89 88,⟨some 90, yt 89, .fa 2 (xt 5)⟩,⟨some 91, yt 89, .ld (xt 90)⟩,⟨some 92, yt 89, .bin .eql (xt 91) (xi 0)⟩,⟨some 93, none, .pick (xt 89) (xt 92) (.c (.b false))⟩,oa 94 93,⟨some 95, yt 94, .fa 3 (xt 5)⟩,⟨some 96, yt 94, .ld (xt 95)⟩,⟨some 97, yt 94, .bin .eql (xt 96) (xi 0)⟩,⟨some 98, none, .pick (xt 94) (xt 97) (.c (.b false))⟩,oa 6 98])
 (.ret))
 (.seq (.reg [⟨some 100, none, .bin .eql (xt 8) (xi 8)⟩,oa 99 100])
 (.cond (xt 99) (.seq (.reg [of 101 1 5,ol 102 101,of 103 2 3,ol 104 103,oz 105 104,⟨some 106, none, .bin .sub (xt 105) (xi 1)⟩,⟨some 107, none, .call 165 [(xt 102), (xi 0), (xt 106)]⟩,oa 108 107,⟨some 109, yt 108, .ldn 4 (xt 3)⟩,ot 110 108 1,⟨some 111, yt 108, .fa 2 (xt 5)⟩,⟨some 112, yt 108, .ld (xt 111)⟩,⟨some 113, yt 108, .call 260 [(xt 109), (xt 110), (xt 112)]⟩,⟨some 114, none, .pick (xt 108) (xt 113) (.c (.b false))⟩,oa 115 114,⟨some 116, yt 115, .ldn 4 (xt 3)⟩,ot 117 115 1,⟨some 118, yt 115, .fa 3 (xt 5)⟩,⟨some 119, yt 115, .ld (xt 118)⟩,⟨some 120, yt 115, .call 260 [(xt 116), (xt 117), (xt 119)]⟩,⟨some 121, none, .pick (xt 115) (xt 120) (.c (.b false))⟩,oa 122 121,⟨some 123, yt 122, .ldn 4 (xt 3)⟩,ot 124 122 1,⟨some 125, yt 122, .bin .add (xt 124) (xi 1)⟩,⟨some 126, yt 122, .call 261 [(xt 123), (xt 125), (xi 5)]⟩,⟨some 127, none, .pick (xt 122) (xt 126) (.c (.b false))⟩,oa 6 127])
 (.ret))
 (.seq (.reg [⟨some 129, none, .bin .eql (xt 8) (xi 10)⟩,oa 128 129])
 (.cond (xt 128) (.seq (.reg [of 130 1 5,ol 131 130,of 132 2 3,ol 133 132,oz 134 133,⟨some 135, none, .bin .sub (xt 134) (xi 1)⟩,⟨some 136, none, .call 165 [(xt 131), (xi 0), (xt 135)]⟩,oa 137 136,⟨some 138, yt 137, .ldn 4 (xt 3)⟩,ot 139 137 1,⟨some 140, yt 137, .ldn 6 (xt 5)⟩,⟨some 141, yt 137, .call 262 [(xt 138), (xt 139), (xt 140)]⟩,⟨some 142, none, .pick (xt 137) (xt 141) (.c (.b false))⟩,oa 143 142,⟨some 144, yt 143, .fa 3 (xt 5)⟩,⟨some 145, yt 143, .ld (xt 144)⟩,⟨some 146, yt 143, .bin .eql (xt 145) (xi 0)⟩,⟨some 147, none, .pick (xt 143) (xt 146) (.c (.b false))⟩,oa 6 147])
 (.ret))
 (.skip)))))))))))))))
 (.seq (.reg [of 148 1 5,ol 149 148,⟨some 150, none, .bin .eql (xt 149) (xi 0)⟩,oa 151 150,⟨some 152, yt 151, .fa 2 (xt 5)⟩,⟨some 153, yt 151, .ld (xt 152)⟩,⟨some 154, yt 151, .bin .eql (xt 153) (xi 0)⟩,⟨some 155, none, .pick (xt 151) (xt 154) (.c (.b false))⟩,oa 156 155,⟨some 157, yt 156, .fa 3 (xt 5)⟩,⟨some 158, yt 156, .ld (xt 157)⟩,⟨some 159, yt 156, .bin .eql (xt 158) (xi 0)⟩,⟨some 160, none, .pick (xt 156) (xt 159) (.c (.b false))⟩,oa 6 160])
 (.ret)))
theorem fn212 : F 212 = .go 161 [.t 6] v212 := by rw [F, fnOf, Tryz.func212]; kernel_rfl

def v213 : VC :=
 .seq (.reg [⟨some 2, none, .box 6 (xt 0)⟩,⟨some 4, none, .mv (.c (.b false))⟩])
 (.seq (.seq (.reg [of 5 0 2,ol 6 5])
 (.blk 0 (.seq (.seq (.reg [⟨some 8, none, .bin .eql (xt 6) (xi 14)⟩,oa 7 8])
 (.cond (xt 7) (.skip)
 (.seq (.reg [⟨some 9, none, .bin .eql (xt 6) (xi 15)⟩,oa 7 9])
 (.cond (xt 7) (.skip)
 (.seq (.reg [⟨some 10, none, .bin .eql (xt 6) (xi 16)⟩,oa 7 10])
 (.cond (xt 7) (.skip)
 (.seq (.reg [⟨some 11, none, .bin .eql (xt 6) (xi 17)⟩,oa 7 11])
 (.cond (xt 7) (.skip)
 (.reg [⟨some 12, none, .bin .eql (xt 6) (xi 18)⟩,oa 7 12])))))))))
 (.cond (xt 7) (.seq (.reg [oa 13 1,⟨some 14, none, .bin .gtr (xt 13) (xi 0)⟩,oa 4 14])
 (.ret))
 (.seq (.reg [⟨some 16, none, .bin .eql (xt 6) (xi 19)⟩,oa 15 16])
 (.cond (xt 15) (.seq (.reg [oa 17 1,⟨some 18, none, .bin .eql (xt 17) (xi 0)⟩,oa 4 18])
 (.ret))
 (.skip)))))))
 (.seq (.reg [⟨some 4, none, .mv (.c (.b true))⟩])
 (.ret)))
theorem fn213 : F 213 = .go 19 [.t 4] v213 := by rw [F, fnOf, Tryz.func213]; kernel_rfl

def v214 : VC :=
 .seq (.reg [⟨some 4, none, .box 6 (xt 1)⟩,⟨some 6, none, .mv (.c (.sl none 0 0 true))⟩])
 (.seq (.reg [oa 8 0,⟨some 9, none, .bin .add (xt 8) (xi 1)⟩,oa 10 2,⟨some 11, none, .build [z0, z0] [(0, 1, (xt 9)), (1, 1, (xt 10))]⟩,⟨some 7, none, .alloc 302 [z0, z0]⟩,os 2 7 11])
 (.seq (.seq (.reg [of 12 0 4,ol 13 12])
 (.blk 0 (.seq (.seq (.reg [⟨some 15, none, .bin .eql (xt 13) (xi 4)⟩,oa 14 15])
 (.cond (xt 14) (.skip)
 (.reg [⟨some 16, none, .bin .eql (xt 13) (xi 5)⟩,oa 14 16])))
 (.cond (xt 14) (.seq (.reg [of 17 1 4,ol 18 17,⟨some 19, none, .bin .neq (xt 18) (xi (-1))⟩])
 (.cond (xt 19) (.seq (.reg [od 20 2 7,of 21 1 4,ol 22 21,oa 23 2,⟨some 24, none, .build [z0, z0] [(0, 1, (xt 22)), (1, 1, (xt 23))]⟩,⟨some 25, none, .bsl 2 2 [z0, z0, z0, z0] [(0, 2, (xt 20)), (2, 2, (xt 24))]⟩,oa 6 25])
 (.ret))
 (.skip)))
 (.seq (.reg [⟨some 27, none, .bin .eql (xt 13) (xi 6)⟩,oa 26 27])
 (.cond (xt 26) (.seq (.reg [of 28 1 4,ol 29 28,oa 30 2,⟨some 31, none, .build [z0, z0] [(0, 1, (xt 29)), (1, 1, (xt 30))]⟩,⟨some 32, none, .bsl 2 1 [z0, z0] [(0, 2, (xt 31))]⟩,oa 6 32])
 (.ret))
 (.seq (.reg [⟨some 34, none, .bin .eql (xt 13) (xi 8)⟩,oa 33 34])
 (.cond (xt 33) (.seq (.reg [od 35 2 7,of 36 2 4,ol 37 36,oa 38 2,⟨some 39, none, .build [z0, z0] [(0, 1, (xt 37)), (1, 1, (xt 38))]⟩,of 40 3 4,ol 41 40,oa 42 2,⟨some 43, none, .build [z0, z0] [(0, 1, (xt 41)), (1, 1, (xt 42))]⟩,⟨some 44, none, .bsl 2 3 [z0, z0, z0, z0, z0, z0] [(0, 2, (xt 35)), (2, 2, (xt 39)), (4, 2, (xt 43))]⟩,oa 6 44])
 (.ret))
 (.seq (.reg [⟨some 46, none, .bin .eql (xt 13) (xi 10)⟩,oa 45 46])
 (.cond (xt 45) (.seq (.reg [of 47 2 4,ol 48 47,oa 49 2,⟨some 50, none, .build [z0, z0] [(0, 1, (xt 48)), (1, 1, (xt 49))]⟩,⟨some 51, none, .bsl 2 1 [z0, z0] [(0, 2, (xt 50))]⟩,oa 6 51])
 (.ret))
 (.seq (.reg [⟨some 53, none, .bin .eql (xt 13) (xi 13)⟩,oa 52 53])
 (.cond (xt 52) (.seq (.reg [of 54 1 7,ol 55 54,⟨some 56, none, .bin .add (xt 55) (xi 1)⟩,of 57 1 7,os 1 57 56])
 (.seq (.reg [of 58 1 4,ol 59 58,⟨some 60, none, .bin .neq (xt 59) (xi (-1))⟩])
 (.cond (xt 60) (.seq (.reg [od 61 2 7,of 62 1 4,ol 63 62,oa 64 2,⟨some 65, none, .build [z0, z0] [(0, 1, (xt 63)), (1, 1, (xt 64))]⟩,⟨some 66, none, .bsl 2 2 [z0, z0, z0, z0] [(0, 2, (xt 61)), (2, 2, (xt 65))]⟩,oa 6 66])
 (.ret))
 (.skip))))
 (.seq (.seq (.reg [⟨some 68, none, .bin .eql (xt 13) (xi 16)⟩,oa 67 68])
 (.cond (xt 67) (.skip)
 (.reg [⟨some 69, none, .bin .eql (xt 13) (xi 17)⟩,oa 67 69])))
 (.cond (xt 67) (.reg [of 70 1 7,ol 71 70,⟨some 72, none, .bin .sub (xt 71) (xi 1)⟩,of 73 1 7,os 1 73 72])
 (.seq (.seq (.reg [⟨some 75, none, .bin .eql (xt 13) (xi 18)⟩,oa 74 75])
 (.cond (xt 74) (.skip)
 (.reg [⟨some 76, none, .bin .eql (xt 13) (xi 19)⟩,oa 74 76])))
 (.cond (xt 74) (.seq (.reg [⟨some 6, none, .mv (.c (.sl none 0 0 true))⟩])
 (.ret))
 (.skip)))))))))))))))))
 (.seq (.reg [od 77 2 7,⟨some 78, none, .bsl 2 1 [z0, z0] [(0, 2, (xt 77))]⟩,oa 6 78])
 (.ret))))
theorem fn214 : F 214 = .go 79 [.t 6] v214 := by rw [F, fnOf, Tryz.func214]; kernel_rfl

def v215 : VC :=
 .seq (.reg [⟨some 4, none, .mv (.c (.i .u64 0))⟩,⟨some 5, none, .mv (.c (.i .u64 0))⟩])
 (.seq (.cond (.c (.b false)) (.seq (.reg [oa 11 0,⟨some 12, none, .cvi .u32 (xt 11)⟩,oa 13 1,⟨some 14, none, .cvi .u32 (xt 13)⟩,⟨some 15, none, .call 263 [(xt 12), (xt 14)]⟩,oa 10 15,oe 16 10 0,oe 17 10 1,oa 6 16,oa 7 17])
 (.seq (.reg [oa 18 6,⟨some 19, none, .cvi .u64 (xt 18)⟩,oa 20 7,⟨some 21, none, .cvi .u64 (xt 20)⟩,oa 4 19,oa 5 21])
 (.ret)))
 (.skip))
 (.seq (.reg [oa 23 0,oa 24 1,⟨some 25, none, .call 264 [(xt 23), (xt 24)]⟩,oa 22 25,oe 26 22 0,oe 27 22 1,oa 8 26,oa 9 27])
 (.seq (.reg [oa 28 8,oa 29 9,oa 4 28,oa 5 29])
 (.ret))))
theorem fn215 : F 215 = .go 30 [.t 4, .t 5] v215 := by rw [F, fnOf, Tryz.func215]; kernel_rfl

def v216 : VC :=
 .seq (.reg [oi 4 0])
 (.seq (.reg [oa 5 0,oc 6 5,of 7 0 6,of 8 3 7,ol 9 8,⟨some 10, none, .bin .add (xt 9) (xi 1)⟩,⟨some 11, none, .bin .mul (xi 2) (xt 10)⟩,oa 12 1,ob 13 .add 11 12,oa 4 13])
 (.ret))
theorem fn216 : F 216 = .go 14 [.t 4] v216 := by rw [F, fnOf, Tryz.func216]; kernel_rfl

def v217 : VC :=
 .seq (.reg [⟨some 2, none, .alloc 307 [(.b false), z0, z0, z0, z0, z0]⟩,⟨some 3, none, .mv (.c (.b false))⟩])
 (.seq (.reg [oa 7 0,⟨some 8, none, .call 265 [(xt 7)]⟩,oa 6 8,oe 9 6 0,oe 10 6 1,⟨some 4, none, .alloc 307 [(.b false), z0, z0, z0, z0, z0]⟩,os 6 4 9,oa 5 10])
 (.seq (.seq (.reg [oa 11 5,⟨some 12, none, .un .not (xt 11)⟩])
 (.cond (xt 12) (.seq (.reg [⟨some 13, none, .build [(.b false), z0, z0, z0, z0, z0] []⟩,os 6 2 13,⟨some 3, none, .mv (.c (.b false))⟩])
 (.ret))
 (.skip)))
 (.seq (.regd [oa 14 0,oa 15 0,oc 16 15,of 17 2 16,ol 18 17,oa 19 0,oc 20 19,of 21 2 20,ol 22 21,oz 23 22,⟨some 24, none, .bin .sub (xt 23) (xi 1)⟩,⟨some 25, none, .slc 6 (xt 18) none (some (xt 24)) none⟩,oc 26 14,of 27 2 26,os 1 27 25] [])
 (.seq (.seq (.reg [of 28 0 4,ol 29 28])
 (.cond (xt 29) (.regd [oa 30 0,oa 31 0,oc 32 31,of 33 3 32,ol 34 33,oa 35 0,oc 36 35,of 37 3 36,ol 38 37,oz 39 38,⟨some 40, none, .bin .sub (xt 39) (xi 1)⟩,⟨some 41, none, .slc 1 (xt 34) none (some (xt 40)) none⟩,oc 42 30,of 43 3 42,os 1 43 41] [])
 (.skip)))
 (.seq (.reg [od 44 6 4,os 6 2 44,⟨some 3, none, .mv (.c (.b true))⟩])
 (.ret))))))
theorem fn217 : F 217 = .go 45 [.c 2 (some 6), .t 3] v217 := by rw [F, fnOf, Tryz.func217]; kernel_rfl

def v218 : VC :=
 .seq (.reg [oa 2 0,oc 3 2,of 4 8 3,ol 5 4,⟨some 6, none, .call 219 [(xt 5), (xi 0)]⟩])
 (.seq (.reg [oa 7 0,oc 8 7,of 9 9 8,ol 10 9,⟨some 11, none, .call 266 [(xt 10)]⟩])
 (.seq (.seq (.regd [oa 12 0,oc 13 12,of 14 16 13,ol 15 14,oa 16 15,ot 17 16 0,⟨some 18, yt 16, .nc (xt 17)⟩,⟨some 19, yt 16, .fa 12 (xt 18)⟩,⟨some 20, yt 16, .ld (xt 19)⟩,ot 21 16 0,⟨some 22, yt 16, .nc (xt 21)⟩,⟨some 23, yt 16, .fa 4 (xt 22)⟩,⟨some 24, yt 16, .ldn 1 (xt 23)⟩,⟨some 25, yt 16, .call 116 [(xt 24)]⟩,⟨some 26, yt 16, .bin .eql (xt 20) (xt 25)⟩,⟨some 27, none, .pick (xt 16) (xt 26) (.c (.b false))⟩] [(8, 13)])
 (.cond (xt 27) (.seq (.reg [oa 28 0,oa 29 0,oa 30 0,oc 31 30,of 32 12 31,ol 33 32,oc 34 28,of 35 11 34,os 1 35 33,oc 36 29,of 37 14 36,⟨none, none, .st 1 (xt 37) (xi 1)⟩])
 (.seq (.reg [oa 38 0,⟨some 39, none, .call 223 [(xt 38), (xi 14), (xi 0), (xi 0), (xi (-1))]⟩])
 (.ret)))
 (.skip)))
 (.seq (.seq (.reg [oa 40 0,oc 41 40,of 42 16 41,ol 43 42])
 (.cond (xt 43) (.reg [oa 44 0,oc 45 44,of 46 12 45,ol 47 46,⟨some 48, none, .bin .add (xt 47) (xi 1)⟩,oc 49 44,of 50 12 49,os 1 50 48])
 (.skip)))
 (.seq (.reg [oa 51 0,oa 52 0,oc 53 51,of 54 16 53,⟨none, none, .st 1 (xt 54) (.c (.b true))⟩,oc 55 52,of 56 15 55,⟨none, none, .st 1 (xt 56) (.c (.b false))⟩])
 (.seq (.reg [oa 57 0,oa 58 0,oa 59 0,oc 60 59,of 61 12 60,ol 62 61,oc 63 57,of 64 10 63,⟨none, none, .st 1 (xt 64) (xi 0)⟩,oc 65 58,of 66 11 65,os 1 66 62])
 (.reg [oa 67 0,⟨some 68, none, .call 223 [(xt 67), (xi 1), (xi 0), (xi 0), (xi (-1))]⟩]))))))
theorem fn218 : F 218 = .go 69 [] v218 := by rw [F, fnOf, Tryz.func218]; kernel_rfl

def v219 : VC :=
 .seq (.reg [⟨some 2, none, .box 1 (xt 0)⟩,⟨some 4, none, .mv (.c (.b false))⟩])
 (.seq (.seq (.reg [oa 7 1,⟨some 8, none, .bin .lss (xt 7) (xi 0)⟩,oa 9 8,on 10 9 1,⟨some 11, yn 9, .ld (xt 2)⟩,⟨some 12, yn 9, .nc (xt 11)⟩,⟨some 13, yn 9, .fa 1 (xt 12)⟩,⟨some 14, yn 9, .ld (xt 13)⟩,⟨some 15, yn 9, .len 1 (xt 14)⟩,⟨some 16, yn 9, .bin .gtr (xt 10) (xt 15)⟩,⟨some 17, none, .pick (xt 9) (.c (.b true)) (xt 16)⟩])
 (.cond (xt 17) (.seq (.reg [⟨some 4, none, .mv (.c (.b false))⟩])
 (.ret))
 (.skip)))
 (.seq (.seq (.reg [ol 18 2,oc 19 18,of 20 1 19,ol 21 20,oa 22 1,⟨some 23, none, .slc 2 (xt 21) (some (xt 22)) none none⟩,⟨some 24, none, .call 267 [(xt 23)]⟩])
 (.blk 0 (.rfn (xt 24) [25, 26] (.reg [⟨some 6, none, .alloc 353 [z0, z0]⟩,os 2 6 26])
 (.blk 1 (.regd [ol 27 2,oc 28 27,of 29 0 28,ol 30 29,of 31 0 6,ol 32 31,of 33 1 6,ol 34 33,⟨some 35, none, .ia 1 (xt 30) (xt 32)⟩,os 1 35 34] [])))))
 (.seq (.regd [ol 36 2,ol 37 2,oc 38 37,of 39 1 38,ol 40 39,oa 41 1,⟨some 42, none, .slc 2 (xt 40) none (some (xt 41)) none⟩,oc 43 36,of 44 1 43,os 1 44 42] [])
 (.seq (.reg [⟨some 4, none, .mv (.c (.b true))⟩])
 (.ret)))))
theorem fn219 : F 219 = .go 45 [.t 4] v219 := by rw [F, fnOf, Tryz.func219]; kernel_rfl

def v222 : VC :=
 .seq (.reg [⟨some 3, none, .box 6 (xt 1)⟩,⟨some 4, none, .mv (.c (.b false))⟩])
 (.seq (.reg [oa 5 0,oc 6 5,of 7 8 6,ol 8 7,⟨some 9, none, .call 268 [(xt 8)]⟩,of 10 3 3,os 1 10 9])
 (.seq (.seq (.regd [oa 11 0,oc 12 11,of 13 9 12,ol 14 13,od 15 6 3,⟨some 16, none, .call 269 [(xt 14), (xt 15)]⟩,⟨some 17, none, .un .not (xt 16)⟩] [])
 (.cond (xt 17) (.seq (.reg [oa 18 0,oc 19 18,of 20 14 19,⟨none, none, .st 1 (xt 20) (xi 3)⟩])
 (.seq (.reg [⟨some 4, none, .mv (.c (.b false))⟩])
 (.ret)))
 (.skip)))
 (.seq (.reg [⟨some 4, none, .mv (.c (.b true))⟩])
 (.ret))))
theorem fn222 : F 222 = .go 21 [.t 4] v222 := by rw [F, fnOf, Tryz.func222]; kernel_rfl

def v223 : VC :=
 .seq (.regd [oa 11 0,oc 12 11,of 13 8 12,ol 14 13,oa 15 0,oc 16 15,of 17 0 16,of 18 3 17,ol 19 18,⟨some 20, none, .bin .add (xt 19) (xi 1)⟩,⟨some 21, none, .bin .mul (xi 2) (xt 20)⟩,⟨some 22, none, .call 270 [(xt 14), (xi 0), (xt 21)]⟩,oa 10 22] [])
 (.seq (.regd [oa 23 0,oa 24 1,oa 25 2,oa 26 3,oa 27 0,oc 28 27,of 29 11 28,ol 30 29,oa 31 0,oc 32 31,of 33 12 32,ol 34 33,oa 35 0,oc 36 35,of 37 9 36,ol 38 37,⟨some 39, none, .call 271 [(xt 38)]⟩,oa 40 4,oa 41 10,⟨some 42, none, .build [z0, z0, z0, z0, z0, z0, z0, (.sl none 0 0 true)] [(0, 1, (xt 24)), (1, 1, (xt 25)), (2, 1, (xt 26)), (3, 1, (xt 30)), (4, 1, (xt 34)), (5, 1, (xt 39)), (6, 1, (xt 40)), (7, 1, (xt 41))]⟩,oc 43 23,of 44 17 43,os 8 44 42] [(7, 16), (11, 16)])
 (.reg [oa 45 0,oc 46 45,of 47 25 46,⟨none, none, .st 1 (xt 47) (.c (.b true))⟩]))
theorem fn223 : F 223 = .go 48 [] v223 := by rw [F, fnOf, Tryz.func223]; kernel_rfl

def v224 : VC :=
 .seq (.reg [⟨some 7, none, .box 6 (xt 3)⟩])
 (.seq (.seq (.reg [oa 8 2,⟨some 9, none, .un .not (xt 8)⟩])
 (.cond (xt 9) (.seq (.reg [oa 10 0,od 11 6 7,⟨some 12, none, .call 272 [(xt 10), (xt 11), (xi 0)]⟩])
 (.ret))
 (.skip)))
 (.seq (.reg [oa 13 0,oc 14 13,of 15 10 14,ol 16 15,⟨some 17, none, .bin .add (xt 16) (xi 1)⟩,oc 18 13,of 19 10 18,os 1 19 17])
 (.seq (.reg [oa 20 0,oa 21 1,oc 22 20,of 23 11 22,os 1 23 21])
 (.reg [oa 24 0,of 25 4 7,ol 26 25,⟨some 27, none, .call 223 [(xt 24), (xi 2), (xt 26), (xi 0), (xi (-1))]⟩]))))
theorem fn224 : F 224 = .go 28 [] v224 := by rw [F, fnOf, Tryz.func224]; kernel_rfl

def v225 : VC :=
 .seq (.reg [⟨some 3, none, .box 1 (xt 0)⟩,⟨some 6, none, .mv (.c (.b false))⟩])
 (.seq (.reg [oa 7 2,od 8 1 3,oa 9 1,⟨some 10, none, .call 274 [(xt 8), (xt 9)]⟩,⟨some 11, none, .call 273 [(xt 7), (xt 10)]⟩,oa 6 11])
 (.ret))
theorem fn225 : F 225 = .go 12 [.t 6] v225 := by rw [F, fnOf, Tryz.func225]; kernel_rfl

def v229 : VC :=
 .seq (.reg [⟨some 6, none, .mv (.c (.b false))⟩])
 (.seq (.seq (.reg [oa 7 1,⟨some 8, none, .bin .lss (xt 7) (xi 0)⟩,oa 9 8,on 10 9 1,on 11 9 0,⟨some 12, yn 9, .nc (xt 11)⟩,⟨some 13, yn 9, .fa 0 (xt 12)⟩,⟨some 14, yn 9, .ld (xt 13)⟩,⟨some 15, yn 9, .len 1 (xt 14)⟩,⟨some 16, yn 9, .bin .geq (xt 10) (xt 15)⟩,⟨some 17, none, .pick (xt 9) (.c (.b true)) (xt 16)⟩])
 (.cond (xt 17) (.seq (.reg [⟨some 6, none, .mv (.c (.b false))⟩])
 (.ret))
 (.skip)))
 (.seq (.seq (.reg [oa 18 0,oc 19 18,of 20 0 19,ol 21 20,oa 22 1,⟨some 23, none, .ia 1 (xt 21) (xt 22)⟩,ol 24 23,oa 25 2,ob 26 .neq 24 25])
 (.cond (xt 26) (.seq (.regd [oa 27 0,oa 28 0,oc 29 28,of 30 1 29,ol 31 30,oa 32 1,oa 33 0,oc 34 33,of 35 0 34,ol 36 35,oa 37 1,⟨some 38, none, .ia 1 (xt 36) (xt 37)⟩,ol 39 38,⟨some 40, none, .build [z0, z0] [(0, 1, (xt 32)), (1, 1, (xt 39))]⟩,⟨some 41, none, .bsl 2 1 [z0, z0] [(0, 2, (xt 40))]⟩,⟨some 42, none, .app ⟨2, (some 353)⟩ 16 (xt 31) (xt 41)⟩,oc 43 27,of 44 1 43,os 1 44 42] [(4, 14)])
 (.reg [oa 45 0,oc 46 45,of 47 0 46,ol 48 47,oa 49 1,oa 50 2,⟨some 51, none, .ia 1 (xt 48) (xt 49)⟩,os 1 51 50]))
 (.skip)))
 (.seq (.reg [⟨some 6, none, .mv (.c (.b true))⟩])
 (.ret))))
theorem fn229 : F 229 = .go 52 [.t 6] v229 := by rw [F, fnOf, Tryz.func229]; kernel_rfl

def v230 : VC :=
 .seq (.reg [oi 4 0,⟨some 5, none, .mv (.c (.b false))⟩])
 (.seq (.seq (.reg [oa 6 1,⟨some 7, none, .bin .lss (xt 6) (xi 0)⟩,oa 8 7,on 9 8 1,on 10 8 0,⟨some 11, yn 8, .nc (xt 10)⟩,⟨some 12, yn 8, .fa 0 (xt 11)⟩,⟨some 13, yn 8, .ld (xt 12)⟩,⟨some 14, yn 8, .len 1 (xt 13)⟩,⟨some 15, yn 8, .bin .geq (xt 9) (xt 14)⟩,⟨some 16, none, .pick (xt 8) (.c (.b true)) (xt 15)⟩])
 (.cond (xt 16) (.seq (.reg [oi 4 0,⟨some 5, none, .mv (.c (.b false))⟩])
 (.ret))
 (.skip)))
 (.seq (.reg [oa 17 0,oc 18 17,of 19 0 18,ol 20 19,oa 21 1,⟨some 22, none, .ia 1 (xt 20) (xt 21)⟩,ol 23 22,oa 4 23,⟨some 5, none, .mv (.c (.b true))⟩])
 (.ret)))
theorem fn230 : F 230 = .go 24 [.t 4, .t 5] v230 := by rw [F, fnOf, Tryz.func230]; kernel_rfl

def v231 : VC :=
 .seq (.reg [oa 6 0,oc 7 6,of 8 8 7,ol 9 8,oa 10 1,⟨some 11, none, .bin .mul (xi 2) (xt 10)⟩,oa 12 2,⟨some 13, none, .call 229 [(xt 9), (xt 11), (xt 12)]⟩])
 (.regd [oa 14 0,oc 15 14,of 16 8 15,ol 17 16,oa 18 1,⟨some 19, none, .bin .mul (xi 2) (xt 18)⟩,⟨some 20, none, .bin .add (xt 19) (xi 1)⟩,oa 21 0,oc 22 21,of 23 11 22,ol 24 23,⟨some 25, none, .call 229 [(xt 17), (xt 20), (xt 24)]⟩] [])
theorem fn231 : F 231 = .go 26 [] v231 := by rw [F, fnOf, Tryz.func231]; kernel_rfl

def v232 : VC :=
 .seq (.reg [⟨some 3, none, .box 6 (xt 1)⟩])
 (.seq (.reg [of 4 0 3,ol 5 4])
 (.blk 0 (.seq (.reg [⟨some 7, none, .bin .eql (xt 5) (xi 7)⟩,oa 6 7])
 (.cond (xt 6) (.seq (.regd [oa 8 0,oc 9 8,of 10 8 9,ol 11 10,oa 12 0,of 13 1 3,ol 14 13,⟨some 15, none, .call 171 [(xt 12), (xt 14)]⟩,⟨some 16, none, .call 229 [(xt 11), (xt 15), (xi 0)]⟩] [(3, 7)])
 (.reg [oa 17 0,oc 18 17,of 19 10 18,ol 20 19,⟨some 21, none, .bin .add (xt 20) (xi 1)⟩,oc 22 17,of 23 10 22,os 1 23 21]))
 (.seq (.reg [⟨some 25, none, .bin .eql (xt 5) (xi 9)⟩,oa 24 25])
 (.cond (xt 24) (.seq (.regd [oa 26 0,oc 27 26,of 28 8 27,ol 29 28,oa 30 0,of 31 1 3,ol 32 31,⟨some 33, none, .call 119 [(xt 30), (xt 32)]⟩,oa 34 0,oc 35 34,of 36 11 35,ol 37 36,⟨some 38, none, .call 229 [(xt 29), (xt 33), (xt 37)]⟩] [(3, 7), (11, 7)])
 (.reg [oa 39 0,oc 40 39,of 41 10 40,ol 42 41,⟨some 43, none, .bin .add (xt 42) (xi 1)⟩,oc 44 39,of 45 10 44,os 1 45 43]))
 (.seq (.reg [⟨some 47, none, .bin .eql (xt 5) (xi 8)⟩,oa 46 47])
 (.cond (xt 46) (.reg [oa 48 0,od 49 6 3,⟨some 50, none, .call 277 [(xt 48), (xt 49)]⟩])
 (.seq (.reg [⟨some 52, none, .bin .eql (xt 5) (xi 10)⟩,oa 51 52])
 (.cond (xt 51) (.reg [oa 53 0,od 54 6 3,⟨some 55, none, .call 278 [(xt 53), (xt 54)]⟩])
 (.skip)))))))))))
theorem fn232 : F 232 = .go 56 [] v232 := by rw [F, fnOf, Tryz.func232]; kernel_rfl

def v235 : VC :=
 .seq (.reg [⟨some 2, none, .mv (.c (.i .i64 0))⟩])
 (.seq (.reg [⟨some 3, none, .mv (.t 0)⟩,⟨some 4, none, .bin .mul (.t 3) (.c (.i .i64 78913))⟩,⟨some 5, none, .bin .shr (.t 4) (.c (.i .u64 18))⟩,⟨some 2, none, .mv (.t 5)⟩])
 (.ret))
theorem fn235 : F 235 = .go 6 [.t 2] v235 := by rw [F, fnOf, Tryz.func235]; kernel_rfl

def v236 : VC :=
 .seq (.reg [⟨some 2, none, .mv (.c (.i .i64 0))⟩])
 (.seq (.seq (.reg [⟨some 3, none, .mv (.t 0)⟩,⟨some 4, none, .bin .geq (.t 3) (.c (.i .u64 4294967296))⟩])
 (.cond (.t 4) (.seq (.reg [⟨some 5, none, .mv (.t 0)⟩,⟨some 6, none, .bin .shr (.t 5) (.c (.i .u64 32))⟩,⟨some 0, none, .mv (.t 6)⟩])
 (.reg [⟨some 2, none, .mv (.c (.i .i64 32))⟩]))
 (.skip)))
 (.seq (.seq (.reg [⟨some 7, none, .mv (.t 0)⟩,⟨some 8, none, .bin .geq (.t 7) (.c (.i .u64 65536))⟩])
 (.cond (.t 8) (.seq (.reg [⟨some 9, none, .mv (.t 0)⟩,⟨some 10, none, .bin .shr (.t 9) (.c (.i .u64 16))⟩,⟨some 0, none, .mv (.t 10)⟩])
 (.reg [⟨some 11, none, .mv (.t 2)⟩,⟨some 12, none, .bin .add (.t 11) (.c (.i .i64 16))⟩,⟨some 2, none, .mv (.t 12)⟩]))
 (.skip)))
 (.seq (.seq (.reg [⟨some 13, none, .mv (.t 0)⟩,⟨some 14, none, .bin .geq (.t 13) (.c (.i .u64 256))⟩])
 (.cond (.t 14) (.seq (.reg [⟨some 15, none, .mv (.t 0)⟩,⟨some 16, none, .bin .shr (.t 15) (.c (.i .u64 8))⟩,⟨some 0, none, .mv (.t 16)⟩])
 (.reg [⟨some 17, none, .mv (.t 2)⟩,⟨some 18, none, .bin .add (.t 17) (.c (.i .i64 8))⟩,⟨some 2, none, .mv (.t 18)⟩]))
 (.skip)))
 (.seq (.reg [⟨some 19, none, .mv (.t 2)⟩,⟨some 20, none, .mv (.t 0)⟩,⟨some 21, none, .cvi .u8 (.t 20)⟩,⟨some 22, none, .ixs (.c (.s ⟨#[0, 1, 2, 2, 3, 3, 3, 3, 4, 4, 4, 4, 4, 4, 4, 4, 5, 5, 5, 5, 5, 5, 5, 5, 5, 5, 5, 5, 5, 5, 5, 5, 6, 6, 6, 6, 6, 6, 6, 6, 6, 6, 6, 6, 6, 6, 6, 6, 6, 6, 6, 6, 6, 6, 6, 6, 6, 6, 6, 6, 6, 6, 6, 6, 7, 7, 7, 7, 7, 7, 7, 7, 7, 7, 7, 7, 7, 7, 7, 7, 7, 7, 7, 7, 7, 7, 7, 7, 7, 7, 7, 7, 7, 7, 7, 7, 7, 7, 7, 7, 7, 7, 7, 7, 7, 7, 7, 7, 7, 7, 7, 7, 7, 7, 7, 7, 7, 7, 7, 7, 7, 7, 7, 7, 7, 7, 7, 7, 8, 8, 8, 8, 8, 8, 8, 8, 8, 8, 8, 8, 8, 8, 8, 8, 8, 8, 8, 8, 8, 8, 8, 8, 8, 8, 8, 8, 8, 8, 8, 8, 8, 8, 8, 8, 8, 8, 8, 8, 8, 8, 8, 8, 8, 8, 8, 8, 8, 8, 8, 8, 8, 8, 8, 8, 8, 8, 8, 8, 8, 8, 8, 8, 8, 8, 8, 8, 8, 8, 8, 8, 8, 8, 8, 8, 8, 8, 8, 8, 8, 8, 8, 8, 8, 8, 8, 8, 8, 8, 8, 8, 8, 8, 8, 8, 8, 8, 8, 8, 8, 8, 8, 8, 8, 8, 8, 8, 8, 8, 8, 8, 8, 8, 8, 8, 8, 8, 8, 8, 8, 8, 8, 8, 8, 8, 8, 8]⟩)) (.t 21)⟩,⟨some 23, none, .cvi .i64 (.t 22)⟩,⟨some 24, none, .bin .add (.t 19) (.t 23)⟩,⟨some 2, none, .mv (.t 24)⟩])
 (.ret)))))
theorem fn236 : F 236 = .go 25 [.t 2] v236 := by rw [F, fnOf, Tryz.func236]; kernel_rfl

def v237 : VC :=
 .seq (.reg [⟨some 2, none, .mv (.c (.i .i64 0))⟩])
 (.seq (.seq (.reg [⟨some 3, none, .mv (.t 0)⟩])
 (.cond (.t 3) (.seq (.reg [⟨some 2, none, .mv (.c (.i .i64 1))⟩])
 (.ret))
 (.skip)))
 (.seq (.reg [⟨some 2, none, .mv (.c (.i .i64 0))⟩])
 (.ret)))
theorem fn237 : F 237 = .go 4 [.t 2] v237 := by rw [F, fnOf, Tryz.func237]; kernel_rfl

def v249 : VC :=
 .seq (.reg [oi 4 0])
 (.seq (.seq (.reg [oa 6 0,oz 7 6,oi 8 0])
 (.blk 0 (.loop (.seq (.reg [ob 9 .lss 8 7])
 (.seq (.cond (xt 9) (.skip)
 (.exit 0))
 (.seq (.blk 1 (.seq (.reg [oa 10 8,oa 5 10])
 (.seq (.reg [oa 11 1,oa 12 0,oa 13 5,⟨some 14, none, .ia 1 (xt 12) (xt 13)⟩,ol 15 14,⟨some 16, none, .cv (xt 11) [(xt 15)]⟩])
 (.cond (xt 16) (.seq (.reg [oa 17 5,oa 4 17])
 (.ret))
 (.skip)))))
 (.reg [⟨some 18, none, .bin .add (xt 8) (xi 1)⟩,oa 8 18])))))))
 (.seq (.reg [oi 4 (-1)])
 (.ret)))
theorem fn249 : F 249 = .go 19 [.t 4] v249 := by rw [F, fnOf, Tryz.func249]; kernel_rfl

def v250 : VC :=
 .seq (.reg [⟨some 2, none, .mv (.c (.i .u64 0))⟩])
 (.seq (.reg [oa 3 0,⟨some 4, none, .cvi .u64 (xt 3)⟩,⟨some 5, none, .bin .shl (xt 4) (.c (.i .u64 1))⟩,oa 6 0,⟨some 7, none, .bin .shr (xt 6) (.c (.i .u64 63))⟩,⟨some 8, none, .cvi .u64 (xt 7)⟩,ob 9 .xor 5 8,oa 2 9])
 (.ret))
theorem fn250 : F 250 = .go 10 [.t 2] v250 := by rw [F, fnOf, Tryz.func250]; kernel_rfl

def v251 : VC :=
 .seq (.reg [⟨some 2, none, .mv (.c (.b false))⟩])
 (.seq (.reg [oa 3 0,⟨some 4, none, .call 289 [(xt 3)]⟩])
 (.seq (.reg [oa 5 0,⟨some 6, none, .call 153 [(xt 5)]⟩,oa 7 6,on 8 7 0,on 9 7 0,⟨some 10, yn 7, .nc (xt 9)⟩,⟨some 11, yn 7, .fa 1 (xt 10)⟩,⟨some 12, yn 7, .ld (xt 11)⟩,⟨some 13, yn 7, .call 203 [(xt 8), (xt 12)]⟩,⟨some 14, yn 7, .bin .eql (xt 13) (.c (.i .u8 124))⟩,⟨some 15, none, .pick (xt 7) (.c (.b true)) (xt 14)⟩,oa 16 15,on 17 16 0,on 18 16 0,⟨some 19, yn 16, .nc (xt 18)⟩,⟨some 20, yn 16, .fa 1 (xt 19)⟩,⟨some 21, yn 16, .ld (xt 20)⟩,⟨some 22, yn 16, .call 203 [(xt 17), (xt 21)]⟩,⟨some 23, yn 16, .bin .eql (xt 22) (.c (.i .u8 41))⟩,⟨some 24, none, .pick (xt 16) (.c (.b true)) (xt 23)⟩,oa 2 24])
 (.ret)))
theorem fn251 : F 251 = .go 25 [.t 2] v251 := by rw [F, fnOf, Tryz.func251]; kernel_rfl

def v252 : VC :=
 .seq (.reg [⟨some 4, none, .mv (.c (.sl none 0 0 true))⟩])
 (.seq (.reg [oa 15 0,oc 16 15,of 17 1 16,ol 18 17,oa 5 18])
 (.seq (.seq (.reg [oa 20 0,⟨some 21, none, .call 290 [(xt 20)]⟩,oa 19 21,oe 22 19 0,oe 23 19 1,⟨some 6, none, .alloc 364 [z0, z0, z0, z0]⟩,os 4 6 22,oa 7 23])
 (.seq (.reg [oa 24 7])
 (.cond (xt 24) (.reg [oa 25 0,oa 26 5,⟨some 27, none, .call 154 [(xt 25), (xi 31), (xt 26)]⟩])
 (.skip))))
 (.seq (.seq (.reg [oa 28 0,oc 29 28,of 30 8 29,ol 31 30,⟨some 32, none, .bin .neq (xt 31) (xi 0)⟩])
 (.cond (xt 32) (.seq (.reg [⟨some 4, none, .mv (.c (.sl none 0 0 true))⟩])
 (.ret))
 (.skip)))
 (.seq (.reg [oa 34 0,oa 35 1,⟨some 36, none, .call 291 [(xt 34), (xt 35)]⟩,oa 33 36,oe 37 33 0,oe 38 33 1,⟨some 8, none, .alloc 232 [z0, z0, z0, z0, z0, z0, z0, (.s ⟨#[]⟩), (.sl none 0 0 true), (.sl none 0 0 true), (.sl none 0 0 true)]⟩,os 11 8 37,oa 9 38])
 (.seq (.seq (.reg [oa 39 0,oc 40 39,of 41 8 40,ol 42 41,⟨some 43, none, .bin .neq (xt 42) (xi 0)⟩])
 (.cond (xt 43) (.seq (.reg [⟨some 4, none, .mv (.c (.sl none 0 0 true))⟩])
 (.ret))
 (.skip)))
 (.seq (.reg [oa 44 0,⟨some 45, none, .call 289 [(xt 44)]⟩])
 (.seq (.seq (.reg [oa 47 0,⟨some 48, none, .call 290 [(xt 47)]⟩,oa 46 48,oe 49 46 0,oe 50 46 1,⟨some 10, none, .alloc 364 [z0, z0, z0, z0]⟩,os 4 10 49,oa 11 50])
 (.seq (.reg [oa 51 11])
 (.cond (xt 51) (.seq (.seq (.reg [oa 52 9,⟨some 53, none, .un .not (xt 52)⟩])
 (.cond (xt 53) (.seq (.reg [oa 54 0,oa 55 0,oc 56 55,of 57 1 56,ol 58 57,⟨some 59, none, .call 154 [(xt 54), (xi 31), (xt 58)]⟩])
 (.seq (.reg [⟨some 4, none, .mv (.c (.sl none 0 0 true))⟩])
 (.ret)))
 (.skip)))
 (.seq (.reg [oa 60 0,of 61 3 10,ol 62 61,oc 63 60,of 64 1 63,os 1 64 62])
 (.seq (.reg [od 65 11 8,oa 66 5,od 67 4 10,⟨some 68, none, .call 292 [(xt 65), (xt 66), (xt 67)]⟩,os 11 8 68])
 (.seq (.reg [oa 69 0,⟨some 70, none, .call 289 [(xt 69)]⟩])
 (.seq (.regd [⟨some 12, none, .alloc 364 [z0, z0, z0, z0]⟩,oa 72 0,oc 73 72,of 74 0 73,ol 75 74,oa 76 0,oc 77 76,of 78 1 77,ol 79 78,⟨some 80, none, .call 293 [(xt 75), (xt 79)]⟩,oa 71 80,oe 81 71 0,oe 82 71 1,oe 83 71 2,os 4 12 81,oa 13 82,oa 14 83] [])
 (.seq (.reg [oa 84 13,oa 85 84,on 86 85 14,⟨some 87, yn 85, .bin .neq (xt 86) (xi 0)⟩,⟨some 88, none, .pick (xt 85) (.c (.b true)) (xt 87)⟩])
 (.cond (xt 88) (.reg [oa 89 0,oa 90 0,oc 91 90,of 92 1 91,ol 93 92,⟨some 94, none, .call 154 [(xt 89), (xi 31), (xt 93)]⟩])
 (.skip))))))))
 (.skip))))
 (.seq (.seq (.reg [of 95 0 8,of 96 0 95,ol 97 96,⟨some 98, none, .bin .eql (xt 97) (xi 0)⟩])
 (.cond (xt 98) (.seq (.reg [⟨some 4, none, .mv (.c (.sl none 0 0 true))⟩])
 (.ret))
 (.skip)))
 (.seq (.reg [od 99 11 8,⟨some 100, none, .bsl 11 1 [z0, z0, z0, z0, z0, z0, z0, (.s ⟨#[]⟩), (.sl none 0 0 true), (.sl none 0 0 true), (.sl none 0 0 true)] [(0, 11, (xt 99))]⟩,oa 4 100])
 (.ret))))))))))
theorem fn252 : F 252 = .go 101 [.t 4] v252 := by rw [F, fnOf, Tryz.func252]; kernel_rfl

def v253 : VC :=
 .seq (.reg [⟨some 2, none, .mv (.c (.i .i32 0))⟩,oi 3 0])
 (.seq (.seq (.reg [oa 6 0,oz 7 6,oi 8 0])
 (.blk 0 (.loop (.seq (.reg [ob 9 .lss 8 7])
 (.seq (.cond (xt 9) (.skip)
 (.exit 0))
 (.seq (.blk 1 (.seq (.reg [⟨some 10, none, .ia 1 (xt 6) (xt 8)⟩,ol 11 10,oa 5 11])
 (.seq (.seq (.reg [oa 12 5,⟨some 13, none, .bin .lss (xt 12) (.c (.i .u8 128))⟩])
 (.cond (xt 13) (.seq (.reg [oa 14 5,⟨some 15, none, .cvi .i32 (xt 14)⟩,oa 2 15,oi 3 1])
 (.ret))
 (.skip)))
 (.exit 0))))
 (.reg [⟨some 16, none, .bin .add (xt 8) (xi 1)⟩,oa 8 16])))))))
 (.seq (.reg [oa 18 0,⟨some 19, none, .call 294 [(xt 18)]⟩,oa 17 19,oe 20 17 0,oe 21 17 1,oa 2 20,oa 3 21])
 (.ret)))
theorem fn253 : F 253 = .go 22 [.t 2, .t 3] v253 := by rw [F, fnOf, Tryz.func253]; kernel_rfl

def v254 : VC :=
 .seq (.reg [oi 2 0])
 (.seq (.seq (.reg [oa 3 0,⟨some 4, none, .bin .gtr (xt 3) (xi 1048576)⟩])
 (.cond (xt 4) (.seq (.reg [oi 2 (-1)])
 (.ret))
 (.skip)))
 (.seq (.reg [oa 5 0,oa 2 5])
 (.ret)))
theorem fn254 : F 254 = .go 6 [.t 2] v254 := by rw [F, fnOf, Tryz.func254]; kernel_rfl

def v255 : VC :=
 .seq (.reg [⟨some 1, none, .box 2 (xt 0)⟩,⟨some 2, none, .alloc 295 [z0, z0]⟩,⟨some 3, none, .mv (.c (.b false))⟩])
 (.seq (.reg [of 4 0 1,ol 5 4,⟨some 6, none, .mx [(xt 5), (xi 0)]⟩,of 7 1 1,ol 8 7,⟨some 9, none, .mn [(xt 8), (xi 1114367)]⟩,of 10 0 1,os 1 10 6,of 11 1 1,os 1 11 9])
 (.seq (.regd [od 12 2 1,of 13 0 1,ol 14 13,of 15 1 1,ol 16 15,ob 17 .leq 14 16,os 2 2 12,oa 3 17] [(2, 6), (4, 6)])
 (.ret)))
theorem fn255 : F 255 = .go 18 [.c 2 (some 2), .t 3] v255 := by rw [F, fnOf, Tryz.func255]; kernel_rfl

def v256 : VC :=
 .seq (.reg [oa 5 0,oz 6 5,oa 4 6])
 (.reg [oa 7 0,oa 8 4,oa 9 4,⟨some 10, none, .cvi .u64 (xt 9)⟩,⟨some 11, none, .call 296 [(xt 10)]⟩,oa 12 1,⟨some 13, none, .call 295 [(xt 7), (xi 0), (xt 8), (xt 11), (xt 12)]⟩])
theorem fn256 : F 256 = .go 14 [] v256 := by rw [F, fnOf, Tryz.func256]; kernel_rfl

def v260 : VC :=
 .seq (.reg [⟨some 3, none, .box 4 (xt 0)⟩,⟨some 6, none, .mv (.c (.b false))⟩])
 (.seq (.reg [oa 7 2,oa 8 1,ob 9 .gtr 7 8,oa 10 9,ot 11 10 2,⟨some 12, yt 10, .fa 0 (xt 3)⟩,⟨some 13, yt 10, .ld (xt 12)⟩,⟨some 14, yt 10, .len 1 (xt 13)⟩,⟨some 15, yt 10, .bin .lss (xt 11) (xt 14)⟩,⟨some 16, none, .pick (xt 10) (xt 15) (.c (.b false))⟩,oa 6 16])
 (.ret))
theorem fn260 : F 260 = .go 17 [.t 6] v260 := by rw [F, fnOf, Tryz.func260]; kernel_rfl

def v261 : VC :=
 .seq (.reg [⟨some 3, none, .box 4 (xt 0)⟩,⟨some 6, none, .mv (.c (.b false))⟩])
 (.seq (.reg [oa 7 1,of 8 0 3,ol 9 8,oz 10 9,⟨some 11, none, .bin .sub (xt 10) (xi 1)⟩,⟨some 12, none, .call 165 [(xt 7), (xi 0), (xt 11)]⟩,oa 13 12,⟨some 14, yt 13, .fa 0 (xt 3)⟩,⟨some 15, yt 13, .ld (xt 14)⟩,ot 16 13 1,⟨some 17, yt 13, .ia 6 (xt 15) (xt 16)⟩,⟨some 18, yt 13, .fa 0 (xt 17)⟩,⟨some 19, yt 13, .ld (xt 18)⟩,ot 20 13 2,⟨some 21, yt 13, .bin .eql (xt 19) (xt 20)⟩,⟨some 22, none, .pick (xt 13) (xt 21) (.c (.b false))⟩,oa 6 22])
 (.ret))
theorem fn261 : F 261 = .go 23 [.t 6] v261 := by rw [F, fnOf, Tryz.func261]; kernel_rfl

def v262 : VC :=
 .seq (.reg [⟨some 3, none, .box 4 (xt 0)⟩,⟨some 5, none, .box 6 (xt 2)⟩,⟨some 6, none, .mv (.c (.b false))⟩])
 (.seq (.regd [of 7 2 5,ol 8 7,oa 9 1,ob 10 .lss 8 9,oa 11 10,⟨some 12, yt 11, .ldn 4 (xt 3)⟩,⟨some 13, yt 11, .fa 2 (xt 5)⟩,⟨some 14, yt 11, .ld (xt 13)⟩,⟨some 15, yt 11, .call 261 [(xt 12), (xt 14), (xi 8)]⟩,⟨some 16, none, .pick (xt 11) (xt 15) (.c (.b false))⟩,oa 17 16,⟨some 18, yt 17, .fa 0 (xt 3)⟩,⟨some 19, yt 17, .ld (xt 18)⟩,⟨some 20, yt 17, .fa 2 (xt 5)⟩,⟨some 21, yt 17, .ld (xt 20)⟩,⟨some 22, yt 17, .ia 6 (xt 19) (xt 21)⟩,⟨some 23, yt 17, .fa 1 (xt 22)⟩,⟨some 24, yt 17, .ld (xt 23)⟩,⟨some 25, yt 17, .fa 1 (xt 5)⟩,⟨some 26, yt 17, .ld (xt 25)⟩,⟨some 27, yt 17, .bin .eql (xt 24) (xt 26)⟩,⟨some 28, none, .pick (xt 17) (xt 27) (.c (.b false))⟩,oa 29 28,⟨some 30, yt 29, .fa 0 (xt 3)⟩,⟨some 31, yt 29, .ld (xt 30)⟩,⟨some 32, yt 29, .fa 2 (xt 5)⟩,⟨some 33, yt 29, .ld (xt 32)⟩,⟨some 34, yt 29, .ia 6 (xt 31) (xt 33)⟩,⟨some 35, yt 29, .fa 2 (xt 34)⟩,⟨some 36, yt 29, .ld (xt 35)⟩,ot 37 29 1,⟨some 38, yt 29, .bin .gtr (xt 36) (xt 37)⟩,⟨some 39, none, .pick (xt 29) (xt 38) (.c (.b false))⟩,oa 6 39] [])
 (.ret))
theorem fn262 : F 262 = .go 40 [.t 6] v262 := by rw [F, fnOf, Tryz.func262]; kernel_rfl

def v264 : VC :=
 .seq (.reg [⟨some 4, none, .mv (.c (.i .u64 0))⟩,⟨some 5, none, .mv (.c (.i .u64 0))⟩])
 (.seq (.reg [oa 14 0,⟨some 15, none, .bin .and (xt 14) (.c (.i .u64 4294967295))⟩,oa 6 15])
 (.seq (.reg [oa 16 0,⟨some 17, none, .bin .shr (xt 16) (.c (.i .u64 32))⟩,oa 7 17])
 (.seq (.reg [oa 18 1,⟨some 19, none, .bin .and (xt 18) (.c (.i .u64 4294967295))⟩,oa 8 19])
 (.seq (.reg [oa 20 1,⟨some 21, none, .bin .shr (xt 20) (.c (.i .u64 32))⟩,oa 9 21])
 (.seq (.reg [oa 22 6,oa 23 8,ob 24 .mul 22 23,oa 10 24])
 (.seq (.reg [oa 25 7,oa 26 8,ob 27 .mul 25 26,oa 28 10,⟨some 29, none, .bin .shr (xt 28) (.c (.i .u64 32))⟩,ob 30 .add 27 29,oa 11 30])
 (.seq (.reg [oa 31 11,⟨some 32, none, .bin .and (xt 31) (.c (.i .u64 4294967295))⟩,oa 12 32])
 (.seq (.reg [oa 33 11,⟨some 34, none, .bin .shr (xt 33) (.c (.i .u64 32))⟩,oa 13 34])
 (.seq (.reg [oa 35 12,oa 36 6,oa 37 9,ob 38 .mul 36 37,ob 39 .add 35 38,oa 12 39])
 (.seq (.reg [oa 40 7,oa 41 9,ob 42 .mul 40 41,oa 43 13,ob 44 .add 42 43,oa 45 12,⟨some 46, none, .bin .shr (xt 45) (.c (.i .u64 32))⟩,ob 47 .add 44 46,oa 4 47])
 (.seq (.reg [oa 48 0,oa 49 1,ob 50 .mul 48 49,oa 5 50])
 (.ret))))))))))))
theorem fn264 : F 264 = .go 51 [.t 4, .t 5] v264 := by rw [F, fnOf, Tryz.func264]; kernel_rfl

def v265 : VC :=
 .seq (.reg [⟨some 2, none, .alloc 307 [(.b false), z0, z0, z0, z0, z0]⟩,⟨some 3, none, .mv (.c (.b false))⟩])
 (.seq (.seq (.reg [oa 4 0,oc 5 4,of 6 2 5,ol 7 6,oz 8 7,⟨some 9, none, .bin .eql (xt 8) (xi 0)⟩])
 (.cond (xt 9) (.seq (.reg [⟨some 10, none, .build [(.b false), z0, z0, z0, z0, z0] []⟩,os 6 2 10,⟨some 3, none, .mv (.c (.b false))⟩])
 (.ret))
 (.skip)))
 (.seq (.regd [oa 11 0,oc 12 11,of 13 2 12,ol 14 13,oa 15 0,oc 16 15,of 17 2 16,ol 18 17,oz 19 18,⟨some 20, none, .bin .sub (xt 19) (xi 1)⟩,⟨some 21, none, .ia 6 (xt 14) (xt 20)⟩,od 22 6 21,os 6 2 22,⟨some 3, none, .mv (.c (.b true))⟩] [])
 (.ret)))
theorem fn265 : F 265 = .go 23 [.c 2 (some 6), .t 3] v265 := by rw [F, fnOf, Tryz.func265]; kernel_rfl

def v266 : VC :=
 .seq (.reg [oa 2 0,oc 3 2,of 4 2 3,ol 5 4,⟨none, none, .clr [(.b false), z0, z0, z0, z0, z0] (xt 5)⟩])
 (.regd [oa 6 0,oa 7 0,oa 8 0,oc 9 8,of 10 2 9,ol 11 10,⟨some 12, none, .slc 6 (xt 11) none (some (xi 0)) none⟩,oa 13 0,oc 14 13,of 15 3 14,ol 16 15,⟨some 17, none, .slc 1 (xt 16) none (some (xi 0)) none⟩,oc 18 6,of 19 2 18,os 1 19 12,oc 20 7,of 21 3 20,os 1 21 17] [])
theorem fn266 : F 266 = .go 22 [] v266 := by rw [F, fnOf, Tryz.func266]; kernel_rfl

def v267 : VC :=
 .seq (.reg [⟨some 1, none, .box 1 (xt 0)⟩,⟨some 2, none, .mv (.c .nf)⟩])
 (.seq (.reg [⟨some 3, none, .fnc 298 [] [(xt 1)]⟩,oa 2 3])
 (.ret))
theorem fn267 : F 267 = .go 4 [.t 2] v267 := by rw [F, fnOf, Tryz.func267]; kernel_rfl

def v268 : VC :=
 .seq (.reg [oi 2 0])
 (.seq (.reg [oa 3 0,oc 4 3,of 5 1 4,ol 6 5,oz 7 6,oa 2 7])
 (.ret))
theorem fn268 : F 268 = .go 8 [.t 2] v268 := by rw [F, fnOf, Tryz.func268]; kernel_rfl

def v269 : VC :=
 .seq (.reg [⟨some 3, none, .box 6 (xt 1)⟩,⟨some 4, none, .mv (.c (.b false))⟩])
 (.seq (.seq (.regd [oa 5 0,oc 6 5,of 7 2 6,ol 8 7,oz 9 8,oa 10 0,oc 11 10,of 12 0 11,ol 13 12,ob 14 .geq 9 13] [])
 (.cond (xt 14) (.seq (.reg [⟨some 4, none, .mv (.c (.b false))⟩])
 (.ret))
 (.skip)))
 (.seq (.seq (.reg [of 15 0 3,ol 16 15])
 (.cond (xt 16) (.regd [oa 17 0,oa 18 0,oc 19 18,of 20 3 19,ol 21 20,oa 22 0,oc 23 22,of 24 2 23,ol 25 24,oz 26 25,⟨some 27, none, .bsl 1 1 [(.i .i64 0)] [(0, 1, (xt 26))]⟩,⟨some 28, none, .app ⟨1, (some 3)⟩ 8 (xt 21) (xt 27)⟩,oc 29 17,of 30 3 29,os 1 30 28] [(4, 10)])
 (.skip)))
 (.seq (.regd [oa 31 0,oa 32 0,oc 33 32,of 34 2 33,ol 35 34,od 36 6 3,⟨some 37, none, .bsl 6 1 [(.b false), z0, z0, z0, z0, z0] [(0, 6, (xt 36))]⟩,⟨some 38, none, .app ⟨6, (some 307)⟩ 48 (xt 35) (xt 37)⟩,oc 39 31,of 40 2 39,os 1 40 38] [(4, 6)])
 (.seq (.regd [oa 41 0,oa 42 0,oc 43 42,of 44 1 43,ol 45 44,oa 46 0,oc 47 46,of 48 2 47,ol 49 48,oz 50 49,⟨some 51, none, .mx [(xt 45), (xt 50)]⟩,oc 52 41,of 53 1 52,os 1 53 51] [])
 (.seq (.reg [⟨some 4, none, .mv (.c (.b true))⟩])
 (.ret))))))
theorem fn269 : F 269 = .go 54 [.t 4] v269 := by rw [F, fnOf, Tryz.func269]; kernel_rfl

def v270 : VC :=
 .seq (.reg [⟨some 6, none, .mv (.c (.sl none 0 0 true))⟩])
 (.seq (.regd [oa 8 1,⟨some 9, none, .mx [(xt 8), (xi 0)]⟩,oa 10 2,oa 11 0,oc 12 11,of 13 0 12,ol 14 13,oz 15 14,⟨some 16, none, .mn [(xt 10), (xt 15)]⟩,oa 1 9,oa 2 16] [])
 (.seq (.seq (.reg [oa 17 1,oa 18 2,ob 19 .geq 17 18])
 (.cond (xt 19) (.seq (.reg [⟨some 6, none, .mv (.c (.sl none 0 0 true))⟩])
 (.ret))
 (.skip)))
 (.seq (.reg [oa 20 2,oa 21 1,ob 22 .sub 20 21,⟨some 23, none, .mks 1 8 [(.i .i64 0)] (xt 22) (xt 22)⟩,oa 7 23])
 (.seq (.reg [oa 24 7,oa 25 0,oc 26 25,of 27 0 26,ol 28 27,oa 29 1,oa 30 2,⟨some 31, none, .slc 1 (xt 28) (some (xt 29)) (some (xt 30)) none⟩,⟨some 32, none, .cpy 1 (xt 24) (xt 31)⟩])
 (.seq (.reg [oa 33 7,oa 6 33])
 (.ret))))))
theorem fn270 : F 270 = .go 34 [.t 6] v270 := by rw [F, fnOf, Tryz.func270]; kernel_rfl

def v271 : VC :=
 .seq (.reg [oi 2 0])
 (.seq (.reg [oa 3 0,oc 4 3,of 5 2 4,ol 6 5,oz 7 6,oa 2 7])
 (.ret))
theorem fn271 : F 271 = .go 8 [.t 2] v271 := by rw [F, fnOf, Tryz.func271]; kernel_rfl

def v272 : VC :=
 .seq (.reg [⟨some 4, none, .box 6 (xt 1)⟩])
 (.seq (.reg [oa 6 0,of 7 4 4,ol 8 7,oa 9 2,⟨some 10, none, .call 223 [(xt 6), (xi 3), (xt 8), (xt 9), (xi (-1))]⟩])
 (.reg [oa 11 0,oc 12 11,of 13 15 12,⟨none, none, .st 1 (xt 13) (.c (.b true))⟩]))
theorem fn272 : F 272 = .go 14 [] v272 := by rw [F, fnOf, Tryz.func272]; kernel_rfl

def v273 : VC :=
 .seq (.reg [⟨some 3, none, .box 1 (xt 1)⟩,⟨some 4, none, .mv (.c (.b false))⟩])
 (.seq (.seq (.reg [ol 5 3,⟨some 6, none, .bin .lss (xt 5) (xi 0)⟩,oa 7 6,⟨some 8, yn 7, .ld (xt 3)⟩,⟨some 9, yn 7, .bin .gtr (xt 8) (xi 1114367)⟩,⟨some 10, none, .pick (xt 7) (.c (.b true)) (xt 9)⟩])
 (.cond (xt 10) (.seq (.reg [⟨some 4, none, .mv (.c (.b false))⟩])
 (.ret))
 (.skip)))
 (.seq (.reg [oa 11 0,⟨some 12, none, .fnc 300 [] [(xt 3)]⟩,⟨some 13, none, .call 299 [(xt 11), (xt 12)]⟩,oa 4 13])
 (.ret)))
theorem fn273 : F 273 = .go 14 [.t 4] v273 := by rw [F, fnOf, Tryz.func273]; kernel_rfl

def v274 : VC :=
 .seq (.reg [⟨some 2, none, .box 1 (xt 0)⟩,oi 4 0])
 (.seq (.seq (.reg [oa 5 1,⟨some 6, none, .bin .lss (xt 5) (xi 0)⟩,oa 7 6,on 8 7 1,⟨some 9, yn 7, .fa 0 (xt 2)⟩,⟨some 10, yn 7, .ld (xt 9)⟩,⟨some 11, yn 7, .len 1 (xt 10)⟩,⟨some 12, yn 7, .bin .geq (xt 8) (xt 11)⟩,⟨some 13, none, .pick (xt 7) (.c (.b true)) (xt 12)⟩])
 (.cond (xt 13) (.seq (.reg [oi 4 (-1)])
 (.ret))
 (.skip)))
 (.seq (.reg [of 14 0 2,ol 15 14,oa 16 1,⟨some 17, none, .ia 1 (xt 15) (xt 16)⟩,ol 18 17,oa 4 18])
 (.ret)))
theorem fn274 : F 274 = .go 19 [.t 4] v274 := by rw [F, fnOf, Tryz.func274]; kernel_rfl

def v277 : VC :=
 .seq (.reg [⟨some 3, none, .box 6 (xt 1)⟩])
 (.seq (.regd [⟨some 4, none, .alloc 248 [z0, z0, z0]⟩,oa 7 0,oc 8 7,of 9 0 8,of 10 2 9,ol 11 10,of 12 1 3,ol 13 12,⟨some 14, none, .ia 3 (xt 11) (xt 13)⟩,od 15 3 14,os 3 4 15] [])
 (.seq (.regd [oa 17 0,oc 18 17,of 19 8 18,ol 20 19,oa 21 0,of 22 1 3,ol 23 22,⟨some 24, none, .call 171 [(xt 21), (xt 23)]⟩,⟨some 25, none, .call 230 [(xt 20), (xt 24)]⟩,oa 16 25,oe 26 16 0,oe 27 16 1,oa 5 26,oa 6 27] [(3, 7)])
 (.blk 0 (.seq (.reg [oa 38 5,of 39 0 4,ol 40 39,ob 41 .lss 38 40,oa 37 41])
 (.cond (xt 37) (.seq (.reg [oa 42 0,of 43 3 3,ol 44 43,oc 45 42,of 46 10 45,os 1 46 44])
 (.reg [oa 47 0,of 48 4 3,ol 49 48,⟨some 50, none, .call 223 [(xt 47), (xi 5), (xt 49), (xi 0), (xi (-1))]⟩]))
 (.seq (.reg [of 52 1 4,ol 53 52,⟨some 54, none, .bin .neq (xt 53) (xi (-1))⟩,oa 55 54,ot 56 55 5,⟨some 57, yt 55, .fa 1 (xt 4)⟩,⟨some 58, yt 55, .ld (xt 57)⟩,⟨some 59, yt 55, .bin .geq (xt 56) (xt 58)⟩,⟨some 60, none, .pick (xt 55) (xt 59) (.c (.b false))⟩,oa 51 60])
 (.cond (xt 51) (.reg [oa 61 0,of 62 2 3,ol 63 62,oc 64 61,of 65 10 64,os 1 65 63])
 (.seq (.regd [oa 67 0,oa 68 0,oc 69 68,of 70 10 69,ol 71 70,⟨some 72, none, .bin .add (xt 71) (xi 1)⟩,oa 73 0,oc 74 73,of 75 11 74,ol 76 75,oa 77 0,oc 78 77,of 79 13 78,ol 80 79,⟨some 81, none, .build [(.b false), z0, z0, z0, z0, z0] [(1, 1, (xt 72)), (2, 1, (xt 76)), (4, 1, (xt 80))]⟩,⟨some 82, none, .call 222 [(xt 67), (xt 81)]⟩,⟨some 83, none, .un .not (xt 82)⟩,oa 66 83] [])
 (.cond (xt 66) (.skip)
 (.seq (.reg [of 85 2 4,ol 86 85,⟨some 87, none, .bin .eql (xt 86) (xi 1)⟩,oa 84 87])
 (.cond (xt 84) (.seq (.reg [oa 88 0,of 89 2 3,ol 90 89,oc 91 88,of 92 10 91,os 1 92 90])
 (.reg [oa 93 0,of 94 4 3,ol 95 94,⟨some 96, none, .call 223 [(xt 93), (xi 6), (xt 95), (xi 2), (xi (-1))]⟩]))
 (.seq (.reg [oa 28 0,of 29 3 3,ol 30 29,oc 31 28,of 32 10 31,os 1 32 30])
 (.reg [oa 33 0,of 34 4 3,ol 35 34,⟨some 36, none, .call 223 [(xt 33), (xi 6), (xt 35), (xi 1), (xi (-1))]⟩])))))))))))))
theorem fn277 : F 277 = .go 97 [] v277 := by rw [F, fnOf, Tryz.func277]; kernel_rfl

def v278 : VC :=
 .seq (.reg [⟨some 3, none, .box 6 (xt 1)⟩])
 (.seq (.regd [oa 9 0,oc 10 9,of 11 8 10,ol 12 11,oa 13 0,of 14 1 3,ol 15 14,⟨some 16, none, .call 171 [(xt 13), (xt 15)]⟩,⟨some 17, none, .call 230 [(xt 12), (xt 16)]⟩,oa 8 17,oe 18 8 0,oe 19 8 1,oa 4 18,oa 5 19] [(3, 7)])
 (.seq (.regd [oa 21 0,oc 22 21,of 23 8 22,ol 24 23,oa 25 0,of 26 1 3,ol 27 26,⟨some 28, none, .call 119 [(xt 25), (xt 27)]⟩,⟨some 29, none, .call 230 [(xt 24), (xt 28)]⟩,oa 20 29,oe 30 20 0,oe 31 20 1,oa 6 30,oa 7 31] [(3, 7)])
 (.seq (.seq (.regd [oa 32 4,oa 33 0,oc 34 33,of 35 0 34,of 36 2 35,ol 37 36,of 38 1 3,ol 39 38,⟨some 40, none, .ia 3 (xt 37) (xt 39)⟩,of 41 0 40,ol 42 41,ob 43 .geq 32 42,oa 44 43,ot 45 44 6,ot 46 44 0,⟨some 47, yt 44, .nc (xt 46)⟩,⟨some 48, yt 44, .fa 11 (xt 47)⟩,⟨some 49, yt 44, .ld (xt 48)⟩,⟨some 50, yt 44, .bin .eql (xt 45) (xt 49)⟩,⟨some 51, none, .pick (xt 44) (xt 50) (.c (.b false))⟩] [])
 (.cond (xt 51) (.seq (.reg [oa 52 0,od 53 6 3,⟨some 54, none, .call 272 [(xt 52), (xt 53), (xi 3)]⟩])
 (.ret))
 (.skip)))
 (.seq (.regd [oa 55 0,oc 56 55,of 57 8 56,ol 58 57,oa 59 0,of 60 1 3,ol 61 60,⟨some 62, none, .call 171 [(xt 59), (xt 61)]⟩,oa 63 4,⟨some 64, none, .bin .add (xt 63) (xi 1)⟩,⟨some 65, none, .call 229 [(xt 58), (xt 62), (xt 64)]⟩] [(3, 7)])
 (.reg [oa 66 0,of 67 2 3,ol 68 67,oc 69 66,of 70 10 69,os 1 70 68])))))
theorem fn278 : F 278 = .go 71 [] v278 := by rw [F, fnOf, Tryz.func278]; kernel_rfl

def v289 : VC :=
 .seq (.reg [oa 2 0,oc 3 2,of 4 2 3,of 5 3 4,ol 6 5])
 (.cond (xt 6) (.regd [oa 7 0,oa 8 0,oc 9 8,of 10 0 9,ol 11 10,oa 12 0,oc 13 12,of 14 1 13,ol 15 14,⟨some 16, none, .call 315 [(xt 11), (xt 15)]⟩,oc 17 7,of 18 1 17,os 1 18 16] [])
 (.skip))
theorem fn289 : F 289 = .go 19 [] v289 := by rw [F, fnOf, Tryz.func289]; kernel_rfl

def v290 : VC :=
 .seq (.reg [⟨some 2, none, .alloc 364 [z0, z0, z0, z0]⟩,⟨some 3, none, .mv (.c (.b false))⟩])
 (.seq (.regd [⟨some 4, none, .alloc 364 [z0, z0, z0, z0]⟩,oa 8 0,oc 9 8,of 10 0 9,ol 11 10,oa 12 0,oc 13 12,of 14 1 13,ol 15 14,⟨some 16, none, .call 293 [(xt 11), (xt 15)]⟩,oa 7 16,oe 17 7 0,oe 18 7 1,oe 19 7 2,os 4 4 17,oa 5 18,oa 6 19] [])
 (.seq (.seq (.reg [oa 20 6,⟨some 21, none, .bin .neq (xt 20) (xi 0)⟩])
 (.cond (xt 21) (.reg [oa 22 0,oa 23 6,oa 24 0,oc 25 24,of 26 1 25,ol 27 26,⟨some 28, none, .call 154 [(xt 22), (xt 23), (xt 27)]⟩])
 (.skip)))
 (.seq (.regd [od 29 4 4,oa 30 5,oa 31 30,ot 32 31 0,⟨some 33, yt 31, .nc (xt 32)⟩,⟨some 34, yt 31, .fa 8 (xt 33)⟩,⟨some 35, yt 31, .ld (xt 34)⟩,⟨some 36, yt 31, .bin .eql (xt 35) (xi 0)⟩,⟨some 37, none, .pick (xt 31) (xt 36) (.c (.b false))⟩,os 4 2 29,oa 3 37] [(6, 9)])
 (.ret))))
theorem fn290 : F 290 = .go 38 [.c 2 (some 4), .t 3] v290 := by rw [F, fnOf, Tryz.func290]; kernel_rfl

def v291 : VC :=
 .seq (.reg [⟨some 4, none, .alloc 232 [z0, z0, z0, z0, z0, z0, z0, (.s ⟨#[]⟩), (.sl none 0 0 true), (.sl none 0 0 true), (.sl none 0 0 true)]⟩,⟨some 5, none, .mv (.c (.b false))⟩])
 (.seq (.reg [oa 14 0,oc 15 14,of 16 1 15,ol 17 16,oa 6 17])
 (.seq (.seq (.reg [oa 18 0,oa 19 6,⟨some 20, none, .call 203 [(xt 18), (xt 19)]⟩])
 (.blk 0 (.seq (.reg [⟨some 22, none, .bin .eql (xt 20) (.c (.i .u8 40))⟩,oa 21 22])
 (.cond (xt 21) (.seq (.reg [oa 23 0,oa 24 1,⟨some 25, none, .bin .add (xt 24) (xi 1)⟩,⟨some 26, none, .call 316 [(xt 23), (xt 25)]⟩,oe 27 26 0,oe 28 26 1,os 11 4 27,oa 5 28])
 (.ret))
 (.seq (.reg [⟨some 30, none, .bin .eql (xt 20) (.c (.i .u8 91))⟩,oa 29 30])
 (.cond (xt 29) (.seq (.regd [oa 32 0,oc 33 32,of 34 0 33,ol 35 34,oa 36 6,oa 37 0,oc 38 37,of 39 2 38,of 40 0 39,ol 41 40,⟨some 42, none, .call 317 [(xt 35), (xt 36), (xt 41)]⟩,oa 31 42,oe 43 31 0,oe 44 31 1,oe 45 31 2,oe 46 31 3,oa 7 43,oa 8 44,oa 9 45,oa 10 46] [])
 (.seq (.seq (.reg [oa 47 9,⟨some 48, none, .bin .neq (xt 47) (xi 0)⟩])
 (.cond (xt 48) (.seq (.reg [oa 49 0,oa 50 9,oa 51 10,⟨some 52, none, .call 154 [(xt 49), (xt 50), (xt 51)]⟩])
 (.seq (.reg [⟨some 53, none, .build [z0, z0, z0, z0, z0, z0, z0, (.s ⟨#[]⟩), (.sl none 0 0 true), (.sl none 0 0 true), (.sl none 0 0 true)] []⟩,os 11 4 53,⟨some 5, none, .mv (.c (.b false))⟩])
 (.ret)))
 (.skip)))
 (.seq (.reg [oa 54 0,oa 55 6,oa 56 8,oa 57 7,⟨some 58, none, .call 318 [(xt 54), (xt 55), (xt 56), (xt 57)]⟩,os 11 4 58,⟨some 5, none, .mv (.c (.b true))⟩])
 (.ret))))
 (.seq (.reg [⟨some 60, none, .bin .eql (xt 20) (.c (.i .u8 46))⟩,oa 59 60])
 (.cond (xt 59) (.seq (.reg [oa 61 0,oa 62 6,oa 63 6,⟨some 64, none, .bin .add (xt 63) (xi 1)⟩,oa 65 0,oc 66 65,of 67 2 66,of 68 2 67,ol 69 68,⟨some 70, none, .call 319 [(xt 69)]⟩,⟨some 71, none, .call 318 [(xt 61), (xt 62), (xt 64), (xt 70)]⟩,os 11 4 71,⟨some 5, none, .mv (.c (.b true))⟩])
 (.ret))
 (.seq (.reg [⟨some 73, none, .bin .eql (xt 20) (.c (.i .u8 94))⟩,oa 72 73])
 (.cond (xt 72) (.seq (.reg [oa 74 0,oa 75 6,oa 76 6,⟨some 77, none, .bin .add (xt 76) (xi 1)⟩,oa 78 0,oc 79 78,of 80 2 79,of 81 1 80,ol 82 81,⟨some 83, none, .call 321 [(xt 82), (xi 4), (xi 1)]⟩,⟨some 84, none, .call 320 [(xt 74), (xt 75), (xt 77), (xt 83)]⟩,os 11 4 84,⟨some 5, none, .mv (.c (.b false))⟩])
 (.ret))
 (.seq (.reg [⟨some 86, none, .bin .eql (xt 20) (.c (.i .u8 36))⟩,oa 85 86])
 (.cond (xt 85) (.seq (.reg [oa 87 0,oa 88 6,oa 89 6,⟨some 90, none, .bin .add (xt 89) (xi 1)⟩,oa 91 0,oc 92 91,of 93 2 92,of 94 1 93,ol 95 94,⟨some 96, none, .call 321 [(xt 95), (xi 5), (xi 2)]⟩,⟨some 97, none, .call 320 [(xt 87), (xt 88), (xt 90), (xt 96)]⟩,os 11 4 97,⟨some 5, none, .mv (.c (.b false))⟩])
 (.ret))
 (.seq (.reg [⟨some 99, none, .bin .eql (xt 20) (.c (.i .u8 92))⟩,oa 98 99])
 (.cond (xt 98) (.seq (.reg [oa 100 0,⟨some 101, none, .call 322 [(xt 100)]⟩,⟨some 11, none, .alloc 232 [z0, z0, z0, z0, z0, z0, z0, (.s ⟨#[]⟩), (.sl none 0 0 true), (.sl none 0 0 true), (.sl none 0 0 true)]⟩,os 11 11 101])
 (.seq (.regd [od 102 11 11,of 103 0 11,of 104 0 103,ol 105 104,⟨some 106, none, .bin .neq (xt 105) (xi 3)⟩,os 11 4 102,oa 5 106] [(3, 5)])
 (.ret)))
 (.skip)))))))))))))))
 (.seq (.reg [oa 108 0,oc 109 108,of 110 0 109,ol 111 110,oa 112 6,⟨some 113, none, .call 205 [(xt 111), (xt 112)]⟩,oa 107 113,oe 114 107 0,oe 115 107 1,oa 12 114,oa 13 115])
 (.seq (.reg [oa 116 0,oa 117 6,oa 118 6,oa 119 13,ob 120 .add 118 119,oa 121 0,oa 122 12,⟨some 123, none, .call 324 [(xt 122)]⟩,⟨some 124, none, .call 323 [(xt 121), (xt 123)]⟩,⟨some 125, none, .call 318 [(xt 116), (xt 117), (xt 120), (xt 124)]⟩,os 11 4 125,⟨some 5, none, .mv (.c (.b true))⟩])
 (.ret)))))
theorem fn291 : F 291 = .go 126 [.c 4 (some 11), .t 5] v291 := by rw [F, fnOf, Tryz.func291]; kernel_rfl

def v292 : VC :=
 .seq (.reg [⟨some 3, none, .box 11 (xt 0)⟩,⟨some 5, none, .box 4 (xt 2)⟩,⟨some 6, none, .alloc 232 [z0, z0, z0, z0, z0, z0, z0, (.s ⟨#[]⟩), (.sl none 0 0 true), (.sl none 0 0 true), (.sl none 0 0 true)]⟩])
 (.seq (.reg [of 9 2 5,ol 10 9,⟨some 11, none, .bin .eql (xt 10) (xi 1)⟩,⟨some 12, none, .call 321 [(xt 11), (xi 1), (xi 0)]⟩,oa 7 12])
 (.seq (.reg [oa 13 1,of 14 3 5,ol 15 14,of 16 0 5,ol 17 16,of 18 1 5,ol 19 18,oa 20 7,⟨some 21, none, .build [z0, z0, z0, z0, z0, z0, z0, (.s ⟨#[]⟩), (.sl none 0 0 true), (.sl none 0 0 true)] [(0, 1, (xi 8)), (1, 1, (xt 13)), (2, 1, (xt 15)), (4, 1, (xt 17)), (5, 1, (xt 19)), (6, 1, (xt 20))]⟩,od 22 11 3,⟨some 23, none, .bsl 11 1 [z0, z0, z0, z0, z0, z0, z0, (.s ⟨#[]⟩), (.sl none 0 0 true), (.sl none 0 0 true), (.sl none 0 0 true)] [(0, 11, (xt 22))]⟩,⟨some 24, none, .build [z0, z0, z0, z0, z0, z0, z0, (.s ⟨#[]⟩), (.sl none 0 0 true), (.sl none 0 0 true), (.sl none 0 0 true)] [(0, 10, (xt 21)), (10, 1, (xt 23))]⟩,⟨some 8, none, .alloc 232 [z0, z0, z0, z0, z0, z0, z0, (.s ⟨#[]⟩), (.sl none 0 0 true), (.sl none 0 0 true), (.sl none 0 0 true)]⟩,os 11 8 24])
 (.seq (.seq (.reg [of 25 2 5,ol 26 25,⟨some 27, none, .bin .leq (xt 26) (xi 1)⟩])
 (.cond (xt 27) (.seq (.reg [od 28 11 8,os 11 6 28])
 (.ret))
 (.skip)))
 (.seq (.reg [oa 29 1,of 30 3 5,ol 31 30,⟨some 32, none, .build [z0, z0, z0, z0, z0, z0, z0, (.s ⟨#[]⟩), (.sl none 0 0 true), (.sl none 0 0 true)] [(0, 1, (xi 9)), (1, 1, (xt 29)), (2, 1, (xt 31))]⟩,od 33 11 8,⟨some 34, none, .bsl 11 1 [z0, z0, z0, z0, z0, z0, z0, (.s ⟨#[]⟩), (.sl none 0 0 true), (.sl none 0 0 true), (.sl none 0 0 true)] [(0, 11, (xt 33))]⟩,⟨some 35, none, .build [z0, z0, z0, z0, z0, z0, z0, (.s ⟨#[]⟩), (.sl none 0 0 true), (.sl none 0 0 true), (.sl none 0 0 true)] [(0, 10, (xt 32)), (10, 1, (xt 34))]⟩,os 11 6 35])
 (.ret)))))
theorem fn292 : F 292 = .go 36 [.c 6 (some 11)] v292 := by rw [F, fnOf, Tryz.func292]; kernel_rfl

def v293 : VC :=
 .seq (.reg [⟨some 4, none, .alloc 364 [z0, z0, z0, z0]⟩,⟨some 5, none, .mv (.c (.b false))⟩,oi 6 0])
 (.seq (.reg [oa 10 0,oa 11 1,⟨some 12, none, .call 325 [(xt 10), (xt 11)]⟩,oa 9 12,oe 13 9 0,oe 14 9 1,⟨some 7, none, .alloc 364 [z0, z0, z0, z0]⟩,os 4 7 13,oa 8 14])
 (.seq (.seq (.reg [oa 15 8,⟨some 16, none, .un .not (xt 15)⟩])
 (.cond (xt 16) (.seq (.reg [⟨some 17, none, .build [z0, z0, z0, z0] []⟩,os 4 4 17,⟨some 5, none, .mv (.c (.b false))⟩,oi 6 0])
 (.ret))
 (.skip)))
 (.seq (.seq (.reg [of 18 0 7,ol 19 18,⟨some 20, none, .bin .gtr (xt 19) (xi 1000)⟩,oa 21 20,⟨some 22, yn 21, .fa 1 (xt 7)⟩,⟨some 23, yn 21, .ld (xt 22)⟩,⟨some 24, yn 21, .bin .gtr (xt 23) (xi 1000)⟩,⟨some 25, none, .pick (xt 21) (.c (.b true)) (xt 24)⟩,oa 26 25,⟨some 27, yn 26, .fa 1 (xt 7)⟩,⟨some 28, yn 26, .ld (xt 27)⟩,⟨some 29, yn 26, .bin .eql (xt 28) (xi 0)⟩,⟨some 30, none, .pick (xt 26) (.c (.b true)) (xt 29)⟩,oa 31 30,⟨some 32, yn 31, .fa 1 (xt 7)⟩,⟨some 33, yn 31, .ld (xt 32)⟩,⟨some 34, yn 31, .bin .neq (xt 33) (xi (-1))⟩,on 35 31 34,⟨some 36, yt 35, .fa 1 (xt 7)⟩,⟨some 37, yt 35, .ld (xt 36)⟩,⟨some 38, yt 35, .fa 0 (xt 7)⟩,⟨some 39, yt 35, .ld (xt 38)⟩,⟨some 40, yt 35, .bin .lss (xt 37) (xt 39)⟩,⟨some 41, yn 31, .pick (xt 35) (xt 40) (.c (.b false))⟩,⟨some 42, none, .pick (xt 31) (.c (.b true)) (xt 41)⟩])
 (.cond (xt 42) (.seq (.reg [⟨some 43, none, .build [z0, z0, z0, z0] []⟩,os 4 4 43,⟨some 5, none, .mv (.c (.b false))⟩,oi 6 34])
 (.ret))
 (.skip)))
 (.seq (.seq (.reg [oa 44 0,of 45 3 7,ol 46 45,⟨some 47, none, .call 326 [(xt 44), (xt 46)]⟩])
 (.blk 0 (.seq (.reg [⟨some 49, none, .bin .eql (xt 47) (.c (.i .u8 63))⟩,oa 48 49])
 (.cond (xt 48) (.reg [of 50 3 7,ol 51 50,⟨some 52, none, .bin .add (xt 51) (xi 1)⟩,of 53 2 7,⟨none, none, .st 1 (xt 53) (xi 1)⟩,of 54 3 7,os 1 54 52])
 (.seq (.reg [⟨some 56, none, .bin .eql (xt 47) (.c (.i .u8 43))⟩,oa 55 56])
 (.cond (xt 55) (.reg [of 57 3 7,ol 58 57,⟨some 59, none, .bin .add (xt 58) (xi 1)⟩,of 60 2 7,⟨none, none, .st 1 (xt 60) (xi 2)⟩,of 61 3 7,os 1 61 59])
 (.skip)))))))
 (.seq (.reg [od 62 4 7,os 4 4 62,⟨some 5, none, .mv (.c (.b true))⟩,oi 6 0])
 (.ret))))))
theorem fn293 : F 293 = .go 63 [.c 4 (some 4), .t 5, .t 6] v293 := by rw [F, fnOf, Tryz.func293]; kernel_rfl

def v295 : VC :=
 .seq (.reg [⟨some 10, none, .mv (.c (.b true))⟩])
 (.seq (.reg [⟨some 11, none, .mv (.c (.b true))⟩])
 (.blk 0 (.loop (.blk 1 (.seq (.reg [oa 21 2,oa 22 1,ob 23 .sub 21 22,oa 12 23])
 (.seq (.seq (.reg [oa 24 12,⟨some 25, none, .bin .leq (xt 24) (xi 12)⟩])
 (.cond (xt 25) (.seq (.reg [oa 26 0,oa 27 1,oa 28 2,oa 29 4,⟨some 30, none, .call 327 [(xt 26), (xt 27), (xt 28), (xt 29)]⟩])
 (.ret))
 (.skip)))
 (.seq (.seq (.reg [oa 31 3,⟨some 32, none, .bin .eql (xt 31) (xi 0)⟩])
 (.cond (xt 32) (.seq (.reg [oa 33 0,oa 34 1,oa 35 2,oa 36 4,⟨some 37, none, .call 328 [(xt 33), (xt 34), (xt 35), (xt 36)]⟩])
 (.ret))
 (.skip)))
 (.seq (.seq (.reg [oa 38 10,⟨some 39, none, .un .not (xt 38)⟩])
 (.cond (xt 39) (.seq (.reg [oa 40 0,oa 41 1,oa 42 2,oa 43 4,⟨some 44, none, .call 329 [(xt 40), (xt 41), (xt 42), (xt 43)]⟩])
 (.reg [oa 45 3,⟨some 46, none, .bin .sub (xt 45) (xi 1)⟩,oa 3 46]))
 (.skip)))
 (.seq (.reg [oa 48 0,oa 49 1,oa 50 2,oa 51 4,⟨some 52, none, .call 330 [(xt 48), (xt 49), (xt 50), (xt 51)]⟩,oa 47 52,oe 53 47 0,oe 54 47 1,oa 13 53,oa 14 54])
 (.seq (.seq (.reg [oa 55 14,⟨some 56, none, .bin .eql (xt 55) (xi 2)⟩])
 (.cond (xt 56) (.seq (.reg [oa 57 0,oa 58 1,oa 59 2,oa 60 4,⟨some 61, none, .call 331 [(xt 57), (xt 58), (xt 59), (xt 60)]⟩])
 (.seq (.reg [oa 62 2,⟨some 63, none, .bin .sub (xt 62) (xi 1)⟩,oa 64 13,oa 65 1,ob 66 .sub 64 65,ob 67 .sub 63 66,oa 13 67])
 (.reg [oi 14 1])))
 (.skip)))
 (.seq (.seq (.reg [oa 68 10,oa 69 68,ot 70 69 11,⟨some 71, none, .pick (xt 69) (xt 70) (.c (.b false))⟩,oa 72 71,ot 73 72 14,⟨some 74, yt 72, .bin .eql (xt 73) (xi 1)⟩,⟨some 75, none, .pick (xt 72) (xt 74) (.c (.b false))⟩])
 (.cond (xt 75) (.seq (.reg [oa 76 0,oa 77 1,oa 78 2,oa 79 4,⟨some 80, none, .call 332 [(xt 76), (xt 77), (xt 78), (xt 79)]⟩])
 (.cond (xt 80) (.ret)
 (.skip)))
 (.skip)))
 (.seq (.seq (.regd [oa 81 1,⟨some 82, none, .bin .gtr (xt 81) (xi 0)⟩,oa 83 82,ot 84 83 4,ot 85 83 0,ot 86 83 1,⟨some 87, yt 83, .bin .sub (xt 86) (xi 1)⟩,⟨some 88, yt 83, .ia 2 (xt 85) (xt 87)⟩,⟨some 89, yt 83, .ldn 2 (xt 88)⟩,ot 90 83 0,ot 91 83 13,⟨some 92, yt 83, .ia 2 (xt 90) (xt 91)⟩,⟨some 93, yt 83, .ldn 2 (xt 92)⟩,⟨some 94, yt 83, .cv (xt 84) [(xt 89), (xt 93)]⟩,⟨some 95, yt 83, .bin .lss (xt 94) (xi 0)⟩,⟨some 96, yt 83, .un .not (xt 95)⟩,⟨some 97, none, .pick (xt 83) (xt 96) (.c (.b false))⟩] [])
 (.cond (xt 97) (.seq (.reg [oa 98 0,oa 99 1,oa 100 2,oa 101 13,oa 102 4,⟨some 103, none, .call 333 [(xt 98), (xt 99), (xt 100), (xt 101), (xt 102)]⟩,oa 15 103])
 (.seq (.reg [oa 104 15,oa 1 104])
 (.exit 1)))
 (.skip)))
 (.seq (.reg [oa 106 0,oa 107 1,oa 108 2,oa 109 13,oa 110 4,⟨some 111, none, .call 334 [(xt 106), (xt 107), (xt 108), (xt 109), (xt 110)]⟩,oa 105 111,oe 112 105 0,oe 113 105 1,oa 16 112,oa 17 113])
 (.seq (.reg [oa 114 17,oa 11 114])
 (.seq (.reg [oa 115 16,oa 116 1,ob 117 .sub 115 116,oa 118 2,oa 119 16,ob 120 .sub 118 119,oa 18 117,oa 19 120])
 (.seq (.reg [oa 121 12,⟨some 122, none, .bin .quo (xt 121) (xi 8)⟩,oa 20 122])
 (.seq (.reg [oa 123 18,oa 124 19,ob 125 .lss 123 124])
 (.cond (xt 125) (.seq (.reg [oa 126 18,oa 127 20,ob 128 .geq 126 127,oa 10 128])
 (.seq (.reg [oa 129 0,oa 130 1,oa 131 16,oa 132 3,oa 133 4,⟨some 134, none, .call 295 [(xt 129), (xt 130), (xt 131), (xt 132), (xt 133)]⟩])
 (.reg [oa 135 16,⟨some 136, none, .bin .add (xt 135) (xi 1)⟩,oa 1 136])))
 (.seq (.reg [oa 137 19,oa 138 20,ob 139 .geq 137 138,oa 10 139])
 (.seq (.reg [oa 140 0,oa 141 16,⟨some 142, none, .bin .add (xt 141) (xi 1)⟩,oa 143 2,oa 144 3,oa 145 4,⟨some 146, none, .call 295 [(xt 140), (xt 142), (xt 143), (xt 144), (xt 145)]⟩])
 (.reg [oa 147 16,oa 2 147])))))))))))))))))))))
theorem fn295 : F 295 = .go 148 [] v295 := by rw [F, fnOf, Tryz.func295]; kernel_rfl

def v296 : VC :=
 .seq (.reg [oi 2 0])
 (.seq (.cond (.c (.b false)) (.seq (.reg [oa 3 0,⟨some 4, none, .cvi .u32 (xt 3)⟩,⟨some 5, none, .call 335 [(xt 4)]⟩,oa 2 5])
 (.ret))
 (.skip))
 (.seq (.reg [oa 6 0,⟨some 7, none, .call 236 [(xt 6)]⟩,oa 2 7])
 (.ret)))
theorem fn296 : F 296 = .go 8 [.t 2] v296 := by rw [F, fnOf, Tryz.func296]; kernel_rfl

def v298 : VC :=
 .seq (.reg [ol 4 1,oz 5 4,⟨some 6, none, .bin .sub (xt 5) (xi 1)⟩,oa 3 6])
 (.blk 0 (.loop (.seq (.seq (.reg [oa 7 3,⟨some 8, none, .bin .geq (xt 7) (xi 0)⟩])
 (.cond (xt 8) (.skip)
 (.exit 0)))
 (.seq (.blk 1 (.seq (.reg [oa 11 0,oa 12 3,ol 13 1,oa 14 3,⟨some 15, none, .ia 2 (xt 13) (xt 14)⟩,od 16 2 15,⟨some 17, none, .cv (xt 11) [(xt 12), (xt 16)]⟩,⟨some 18, none, .un .not (xt 17)⟩])
 (.cond (xt 18) (.ret)
 (.skip))))
 (.reg [oa 9 3,⟨some 10, none, .bin .sub (xt 9) (xi 1)⟩,oa 3 10])))))
theorem fn298 : F 298 = .go 19 [] v298 := by rw [F, fnOf, Tryz.func298]; kernel_rfl

def v299 : VC :=
 .seq (.reg [⟨some 4, none, .mv (.c (.b false))⟩])
 (.seq (.reg [oa 5 0,oa 6 1,⟨some 7, none, .call 336 [(xt 5), (xt 6)]⟩,⟨some 8, none, .bin .geq (xt 7) (xi 0)⟩,oa 4 8])
 (.ret))
theorem fn299 : F 299 = .go 9 [.t 4] v299 := by rw [F, fnOf, Tryz.func299]; kernel_rfl

def v300 : VC :=
 .seq (.reg [⟨some 2, none, .box 2 (xt 0)⟩,⟨some 3, none, .mv (.c (.b false))⟩])
 (.seq (.reg [of 4 0 2,ol 5 4,ol 6 1,ob 7 .leq 5 6,oa 8 7,⟨some 9, yt 8, .ld (xt 1)⟩,⟨some 10, yt 8, .fa 1 (xt 2)⟩,⟨some 11, yt 8, .ld (xt 10)⟩,⟨some 12, yt 8, .bin .leq (xt 9) (xt 11)⟩,⟨some 13, none, .pick (xt 8) (xt 12) (.c (.b false))⟩,oa 3 13])
 (.ret))
theorem fn300 : F 300 = .go 14 [.t 3] v300 := by rw [F, fnOf, Tryz.func300]; kernel_rfl

def v316 : VC :=
 .seq (.reg [⟨some 4, none, .alloc 232 [z0, z0, z0, z0, z0, z0, z0, (.s ⟨#[]⟩), (.sl none 0 0 true), (.sl none 0 0 true), (.sl none 0 0 true)]⟩,⟨some 5, none, .mv (.c (.b false))⟩])
 (.seq (.reg [oa 10 0,oc 11 10,of 12 1 11,ol 13 12,oa 6 13])
 (.seq (.seq (.reg [oa 14 1,⟨some 15, none, .bin .gtr (xt 14) (xi 100)⟩])
 (.cond (xt 15) (.seq (.reg [oa 16 0,oa 17 6,⟨some 18, none, .call 154 [(xt 16), (xi 39), (xt 17)]⟩])
 (.seq (.reg [⟨some 19, none, .build [z0, z0, z0, z0, z0, z0, z0, (.s ⟨#[]⟩), (.sl none 0 0 true), (.sl none 0 0 true), (.sl none 0 0 true)] []⟩,os 11 4 19,⟨some 5, none, .mv (.c (.b false))⟩])
 (.ret)))
 (.skip)))
 (.seq (.reg [oa 20 0,oa 21 6,⟨some 22, none, .call 342 [(xt 20), (xt 21)]⟩,⟨some 7, none, .alloc 414 [z0, z0, (.s ⟨#[]⟩), (.b false), (.b false), (.b false), (.b false), (.b false)]⟩,os 8 7 22])
 (.seq (.seq (.reg [of 23 7 7,ol 24 23,oa 25 24,on 26 25 0,⟨some 27, yn 25, .nc (xt 26)⟩,⟨some 28, yn 25, .fa 8 (xt 27)⟩,⟨some 29, yn 25, .ld (xt 28)⟩,⟨some 30, yn 25, .bin .neq (xt 29) (xi 0)⟩,⟨some 31, none, .pick (xt 25) (.c (.b true)) (xt 30)⟩])
 (.cond (xt 31) (.seq (.reg [oa 32 0,of 33 3 7,od 34 4 33,oc 35 32,of 36 2 35,os 4 36 34])
 (.seq (.reg [⟨some 37, none, .build [z0, z0, z0, z0, z0, z0, z0, (.s ⟨#[]⟩), (.sl none 0 0 true), (.sl none 0 0 true), (.sl none 0 0 true)] []⟩,os 11 4 37,⟨some 5, none, .mv (.c (.b false))⟩])
 (.ret)))
 (.skip)))
 (.seq (.seq (.reg [of 38 0 7,ol 39 38,⟨some 40, none, .bin .eql (xt 39) (xi 7)⟩])
 (.cond (xt 40) (.seq (.seq (.reg [oa 41 0,oc 42 41,of 43 6 42,ol 44 43,⟨some 45, none, .bin .eql (xt 44) (xi 99)⟩])
 (.cond (xt 45) (.seq (.reg [oa 46 0,oa 47 6,⟨some 48, none, .call 154 [(xt 46), (xi 40), (xt 47)]⟩])
 (.seq (.reg [⟨some 49, none, .build [z0, z0, z0, z0, z0, z0, z0, (.s ⟨#[]⟩), (.sl none 0 0 true), (.sl none 0 0 true), (.sl none 0 0 true)] []⟩,os 11 4 49,⟨some 5, none, .mv (.c (.b false))⟩])
 (.ret)))
 (.skip)))
 (.seq (.reg [oa 50 0,oc 51 50,of 52 6 51,ol 53 52,⟨some 54, none, .bin .add (xt 53) (xi 1)⟩,oc 55 50,of 56 6 55,os 1 56 54])
 (.seq (.reg [oa 57 0,oc 58 57,of 59 6 58,ol 60 59,of 61 1 7,os 1 61 60])
 (.regd [oa 62 0,oa 63 0,oc 64 63,of 65 7 64,ol 66 65,of 67 2 7,ol 68 67,⟨some 69, none, .bsl 1 1 [(.s ⟨#[]⟩)] [(0, 1, (xt 68))]⟩,⟨some 70, none, .app ⟨1, (some 9)⟩ 16 (xt 66) (xt 69)⟩,oc 71 62,of 72 7 71,os 1 72 70] [(4, 7)]))))
 (.skip)))
 (.seq (.reg [oa 73 0,oc 74 73,of 75 2 74,od 76 4 75,⟨some 8, none, .alloc 227 [(.b false), (.b false), (.b false), (.b false)]⟩,os 4 8 76])
 (.seq (.reg [oa 77 0,of 78 3 7,od 79 4 78,oc 80 77,of 81 2 80,os 4 81 79])
 (.seq (.reg [oa 82 0,oa 83 1,⟨some 84, none, .call 152 [(xt 82), (xt 83)]⟩,⟨some 9, none, .alloc 232 [z0, z0, z0, z0, z0, z0, z0, (.s ⟨#[]⟩), (.sl none 0 0 true), (.sl none 0 0 true), (.sl none 0 0 true)]⟩,os 11 9 84])
 (.seq (.reg [oa 85 0,od 86 4 8,oc 87 85,of 88 2 87,os 4 88 86])
 (.seq (.seq (.reg [oa 89 0,oa 90 0,oc 91 90,of 92 1 91,ol 93 92,⟨some 94, none, .call 203 [(xt 89), (xt 93)]⟩,⟨some 95, none, .bin .neq (xt 94) (.c (.i .u8 41))⟩,oa 96 95,on 97 96 0,⟨some 98, yn 96, .call 153 [(xt 97)]⟩,⟨some 99, none, .pick (xt 96) (.c (.b true)) (xt 98)⟩])
 (.cond (xt 99) (.seq (.reg [oa 100 0,oa 101 6,⟨some 102, none, .call 154 [(xt 100), (xi 30), (xt 101)]⟩])
 (.seq (.reg [⟨some 103, none, .build [z0, z0, z0, z0, z0, z0, z0, (.s ⟨#[]⟩), (.sl none 0 0 true), (.sl none 0 0 true), (.sl none 0 0 true)] []⟩,os 11 4 103,⟨some 5, none, .mv (.c (.b false))⟩])
 (.ret)))
 (.skip)))
 (.seq (.reg [oa 104 0,oc 105 104,of 106 1 105,ol 107 106,⟨some 108, none, .bin .add (xt 107) (xi 1)⟩,oc 109 104,of 110 1 109,os 1 110 108])
 (.seq (.seq (.reg [of 111 0 7,ol 112 111,⟨some 113, none, .bin .eql (xt 112) (xi 0)⟩])
 (.cond (xt 113) (.seq (.reg [od 114 11 9,os 11 4 114,⟨some 5, none, .mv (.c (.b true))⟩])
 (.ret))
 (.skip)))
 (.seq (.regd [of 115 0 7,ol 116 115,oa 117 6,oa 118 0,oc 119 118,of 120 1 119,ol 121 120,of 122 1 7,ol 123 122,of 124 2 7,ol 125 124,⟨some 126, none, .build [z0, z0, z0, z0, z0, z0, z0, (.s ⟨#[]⟩), (.sl none 0 0 true), (.sl none 0 0 true)] [(0, 1, (xt 116)), (1, 1, (xt 117)), (2, 1, (xt 121)), (3, 1, (xt 123)), (7, 1, (xt 125))]⟩,od 127 11 9,⟨some 128, none, .bsl 11 1 [z0, z0, z0, z0, z0, z0, z0, (.s ⟨#[]⟩), (.sl none 0 0 true), (.sl none 0 0 true), (.sl none 0 0 true)] [(0, 11, (xt 127))]⟩,⟨some 129, none, .build [z0, z0, z0, z0, z0, z0, z0, (.s ⟨#[]⟩), (.sl none 0 0 true), (.sl none 0 0 true), (.sl none 0 0 true)] [(0, 10, (xt 126)), (10, 1, (xt 128))]⟩,os 11 4 129,⟨some 5, none, .mv (.c (.b true))⟩] [(1, 13), (6, 13), (8, 13), (10, 13)])
 (.ret))))))))))))))
theorem fn316 : F 316 = .go 130 [.c 4 (some 11), .t 5] v316 := by rw [F, fnOf, Tryz.func316]; kernel_rfl

def v318 : VC :=
 .seq (.reg [⟨some 8, none, .alloc 232 [z0, z0, z0, z0, z0, z0, z0, (.s ⟨#[]⟩), (.sl none 0 0 true), (.sl none 0 0 true), (.sl none 0 0 true)]⟩])
 (.seq (.reg [oa 9 0,oa 10 2,oc 11 9,of 12 1 11,os 1 12 10])
 (.seq (.reg [oa 13 1,oa 14 2,oa 15 3,⟨some 16, none, .build [z0, z0, z0, z0, z0, z0, z0, (.s ⟨#[]⟩), (.sl none 0 0 true), (.sl none 0 0 true)] [(0, 1, (xi 2)), (1, 1, (xt 13)), (2, 1, (xt 14)), (8, 1, (xt 15))]⟩,⟨some 17, none, .build [z0, z0, z0, z0, z0, z0, z0, (.s ⟨#[]⟩), (.sl none 0 0 true), (.sl none 0 0 true), (.sl none 0 0 true)] [(0, 10, (xt 16))]⟩,os 11 8 17])
 (.ret)))
theorem fn318 : F 318 = .go 18 [.c 8 (some 11)] v318 := by rw [F, fnOf, Tryz.func318]; kernel_rfl

def v321 : VC :=
 .seq (.reg [oi 6 0])
 (.seq (.seq (.reg [oa 7 0])
 (.cond (xt 7) (.seq (.reg [oa 8 1,oa 6 8])
 (.ret))
 (.skip)))
 (.seq (.reg [oa 9 2,oa 6 9])
 (.ret)))
theorem fn321 : F 321 = .go 10 [.t 6] v321 := by rw [F, fnOf, Tryz.func321]; kernel_rfl

def v323 : VC :=
 .seq (.reg [⟨some 4, none, .mv (.c (.sl none 0 0 true))⟩])
 (.seq (.seq (.reg [oa 5 0,oc 6 5,of 7 2 6,of 8 0 7,ol 9 8])
 (.cond (xt 9) (.seq (.reg [oa 10 1,⟨some 11, none, .call 344 [(xt 10)]⟩,oa 4 11])
 (.ret))
 (.skip)))
 (.seq (.reg [oa 12 1,oa 4 12])
 (.ret)))
theorem fn323 : F 323 = .go 13 [.t 4] v323 := by rw [F, fnOf, Tryz.func323]; kernel_rfl

def v324 : VC :=
 .seq (.reg [⟨some 2, none, .mv (.c (.sl none 0 0 true))⟩])
 (.seq (.reg [oa 3 0,oa 4 0,⟨some 5, none, .build [z0, z0] [(0, 1, (xt 3)), (1, 1, (xt 4))]⟩,⟨some 6, none, .bsl 2 1 [z0, z0] [(0, 2, (xt 5))]⟩,⟨some 7, none, .call 211 [(xt 6)]⟩,oa 2 7])
 (.ret))
theorem fn324 : F 324 = .go 8 [.t 2] v324 := by rw [F, fnOf, Tryz.func324]; kernel_rfl

def v325 : VC :=
 .seq (.reg [⟨some 4, none, .alloc 364 [z0, z0, z0, z0]⟩,⟨some 5, none, .mv (.c (.b false))⟩])
 (.seq (.seq (.reg [oa 6 0,oa 7 1,⟨some 8, none, .call 326 [(xt 6), (xt 7)]⟩])
 (.blk 0 (.seq (.reg [⟨some 10, none, .bin .eql (xt 8) (.c (.i .u8 42))⟩,oa 9 10])
 (.cond (xt 9) (.seq (.reg [oa 11 1,⟨some 12, none, .bin .add (xt 11) (xi 1)⟩,⟨some 13, none, .build [z0, z0, z0, z0] [(1, 1, (xi (-1))), (3, 1, (xt 12))]⟩,os 4 4 13,⟨some 5, none, .mv (.c (.b true))⟩])
 (.ret))
 (.seq (.reg [⟨some 15, none, .bin .eql (xt 8) (.c (.i .u8 43))⟩,oa 14 15])
 (.cond (xt 14) (.seq (.reg [oa 16 1,⟨some 17, none, .bin .add (xt 16) (xi 1)⟩,⟨some 18, none, .build [z0, z0, z0, z0] [(0, 1, (xi 1)), (1, 1, (xi (-1))), (3, 1, (xt 17))]⟩,os 4 4 18,⟨some 5, none, .mv (.c (.b true))⟩])
 (.ret))
 (.seq (.reg [⟨some 20, none, .bin .eql (xt 8) (.c (.i .u8 63))⟩,oa 19 20])
 (.cond (xt 19) (.seq (.reg [oa 21 1,⟨some 22, none, .bin .add (xt 21) (xi 1)⟩,⟨some 23, none, .build [z0, z0, z0, z0] [(1, 1, (xi 1)), (3, 1, (xt 22))]⟩,os 4 4 23,⟨some 5, none, .mv (.c (.b true))⟩])
 (.ret))
 (.seq (.reg [⟨some 25, none, .bin .eql (xt 8) (.c (.i .u8 123))⟩,oa 24 25])
 (.cond (xt 24) (.seq (.reg [oa 26 0,oa 27 1,⟨some 28, none, .call 347 [(xt 26), (xt 27)]⟩,oe 29 28 0,oe 30 28 1,os 4 4 29,oa 5 30])
 (.ret))
 (.skip)))))))))))
 (.seq (.reg [⟨some 31, none, .build [z0, z0, z0, z0] []⟩,os 4 4 31,⟨some 5, none, .mv (.c (.b false))⟩])
 (.ret)))
theorem fn325 : F 325 = .go 32 [.c 4 (some 4), .t 5] v325 := by rw [F, fnOf, Tryz.func325]; kernel_rfl

def v326 : VC :=
 .seq (.reg [⟨some 4, none, .mv (.c (.i .u8 0))⟩])
 (.seq (.seq (.reg [oa 5 1,⟨some 6, none, .bin .lss (xt 5) (xi 0)⟩,oa 7 6,on 8 7 1,on 9 7 0,⟨some 10, yn 7, .len 1 (xt 9)⟩,⟨some 11, yn 7, .bin .geq (xt 8) (xt 10)⟩,⟨some 12, none, .pick (xt 7) (.c (.b true)) (xt 11)⟩])
 (.cond (xt 12) (.seq (.reg [⟨some 4, none, .mv (.c (.i .u8 0))⟩])
 (.ret))
 (.skip)))
 (.seq (.reg [oa 13 0,oa 14 1,⟨some 15, none, .ia 1 (xt 13) (xt 14)⟩,ol 16 15,oa 4 16])
 (.ret)))
theorem fn326 : F 326 = .go 17 [.t 4] v326 := by rw [F, fnOf, Tryz.func326]; kernel_rfl

def v327 : VC :=
 .seq (.reg [oa 10 1,⟨some 11, none, .bin .add (xt 10) (xi 1)⟩,oa 8 11])
 (.blk 0 (.loop (.seq (.seq (.reg [oa 12 8,oa 13 2,ob 14 .lss 12 13])
 (.cond (xt 14) (.skip)
 (.exit 0)))
 (.seq (.blk 1 (.seq (.reg [oa 17 8,oa 9 17])
 (.blk 2 (.loop (.seq (.seq (.regd [oa 18 9,oa 19 1,ob 20 .gtr 18 19,oa 21 20,ot 22 21 3,ot 23 21 0,ot 24 21 9,⟨some 25, yt 21, .ia 2 (xt 23) (xt 24)⟩,⟨some 26, yt 21, .ldn 2 (xt 25)⟩,ot 27 21 0,ot 28 21 9,⟨some 29, yt 21, .bin .sub (xt 28) (xi 1)⟩,⟨some 30, yt 21, .ia 2 (xt 27) (xt 29)⟩,⟨some 31, yt 21, .ldn 2 (xt 30)⟩,⟨some 32, yt 21, .cv (xt 22) [(xt 26), (xt 31)]⟩,⟨some 33, yt 21, .bin .lss (xt 32) (xi 0)⟩,⟨some 34, none, .pick (xt 21) (xt 33) (.c (.b false))⟩] [])
 (.cond (xt 34) (.skip)
 (.exit 2)))
 (.seq (.blk 3 (.regd [oa 37 0,oa 38 9,oa 39 0,oa 40 9,⟨some 41, none, .bin .sub (xt 40) (xi 1)⟩,oa 42 0,oa 43 9,⟨some 44, none, .bin .sub (xt 43) (xi 1)⟩,⟨some 45, none, .ia 2 (xt 42) (xt 44)⟩,od 46 2 45,oa 47 0,oa 48 9,⟨some 49, none, .ia 2 (xt 47) (xt 48)⟩,od 50 2 49,⟨some 51, none, .ia 2 (xt 37) (xt 38)⟩,os 2 51 46,⟨some 52, none, .ia 2 (xt 39) (xt 41)⟩,os 2 52 50] []))
 (.reg [oa 35 9,⟨some 36, none, .bin .sub (xt 35) (xi 1)⟩,oa 9 36])))))))
 (.reg [oa 15 8,⟨some 16, none, .bin .add (xt 15) (xi 1)⟩,oa 8 16])))))
theorem fn327 : F 327 = .go 53 [] v327 := by rw [F, fnOf, Tryz.func327]; kernel_rfl

def v336 : VC :=
 .seq (.reg [oi 4 0])
 (.seq (.seq (.reg [oa 6 0,oz 7 6,oi 8 0])
 (.blk 0 (.loop (.seq (.reg [ob 9 .lss 8 7])
 (.seq (.cond (xt 9) (.skip)
 (.exit 0))
 (.seq (.blk 1 (.seq (.reg [oa 10 8,oa 5 10])
 (.seq (.reg [oa 11 1,oa 12 0,oa 13 5,⟨some 14, none, .ia 2 (xt 12) (xt 13)⟩,od 15 2 14,⟨some 16, none, .cv (xt 11) [(xt 15)]⟩])
 (.cond (xt 16) (.seq (.reg [oa 17 5,oa 4 17])
 (.ret))
 (.skip)))))
 (.reg [⟨some 18, none, .bin .add (xt 8) (xi 1)⟩,oa 8 18])))))))
 (.seq (.reg [oi 4 (-1)])
 (.ret)))
theorem fn336 : F 336 = .go 19 [.t 4] v336 := by rw [F, fnOf, Tryz.func336]; kernel_rfl

def v342 : VC :=
 .seq (.reg [⟨some 4, none, .alloc 414 [z0, z0, (.s ⟨#[]⟩), (.b false), (.b false), (.b false), (.b false), (.b false)]⟩])
 (.seq (.seq (.reg [oa 7 0,oa 8 1,⟨some 9, none, .bin .add (xt 8) (xi 1)⟩,⟨some 10, none, .call 203 [(xt 7), (xt 9)]⟩,⟨some 11, none, .bin .neq (xt 10) (.c (.i .u8 63))⟩])
 (.cond (xt 11) (.seq (.reg [oa 12 0,oa 13 1,⟨some 14, none, .bin .add (xt 13) (xi 1)⟩,oc 15 12,of 16 1 15,os 1 16 14])
 (.seq (.reg [oa 17 0,oc 18 17,of 19 2 18,od 20 4 19,⟨some 21, none, .build [z0, z0, (.s ⟨#[]⟩), (.b false), (.b false), (.b false), (.b false), (.b false)] [(0, 1, (xi 7)), (3, 4, (xt 20))]⟩,os 8 4 21])
 (.ret)))
 (.skip)))
 (.seq (.reg [oa 22 0,oa 23 1,⟨some 24, none, .bin .add (xt 23) (xi 2)⟩,⟨some 25, none, .call 203 [(xt 22), (xt 24)]⟩,oa 26 0,oa 27 1,⟨some 28, none, .bin .add (xt 27) (xi 3)⟩,⟨some 29, none, .call 203 [(xt 26), (xt 28)]⟩,oa 5 25,oa 6 29])
 (.seq (.reg [oa 30 0,oa 31 1,⟨some 32, none, .bin .add (xt 31) (xi 3)⟩,oc 33 30,of 34 1 33,os 1 34 32])
 (.seq (.blk 0 (.seq (.reg [oa 36 5,⟨some 37, none, .bin .eql (xt 36) (.c (.i .u8 58))⟩,oa 35 37])
 (.cond (xt 35) (.seq (.reg [oa 38 0,oc 39 38,of 40 2 39,od 41 4 40,⟨some 42, none, .build [z0, z0, (.s ⟨#[]⟩), (.b false), (.b false), (.b false), (.b false), (.b false)] [(3, 4, (xt 41))]⟩,os 8 4 42])
 (.ret))
 (.seq (.reg [oa 44 5,⟨some 45, none, .bin .eql (xt 44) (.c (.i .u8 62))⟩,oa 43 45])
 (.cond (xt 43) (.seq (.reg [oa 46 0,oc 47 46,of 48 2 47,od 49 4 48,⟨some 50, none, .build [z0, z0, (.s ⟨#[]⟩), (.b false), (.b false), (.b false), (.b false), (.b false)] [(0, 1, (xi 9)), (3, 4, (xt 49))]⟩,os 8 4 50])
 (.ret))
 (.seq (.reg [oa 52 5,⟨some 53, none, .bin .eql (xt 52) (.c (.i .u8 61))⟩,oa 54 53,on 55 54 5,⟨some 56, yn 54, .bin .eql (xt 55) (.c (.i .u8 33))⟩,⟨some 57, none, .pick (xt 54) (.c (.b true)) (xt 56)⟩,oa 51 57])
 (.cond (xt 51) (.seq (.regd [oa 58 5,⟨some 59, none, .call 355 [(xt 58), (xi 1), (xi 2)]⟩,oa 60 0,oc 61 60,of 62 2 61,od 63 4 62,⟨some 64, none, .build [z0, z0, (.s ⟨#[]⟩), (.b false), (.b false), (.b false), (.b false), (.b false)] [(0, 1, (xi 10)), (1, 1, (xt 59)), (3, 4, (xt 63))]⟩,os 8 4 64] [(5, 1)])
 (.ret))
 (.seq (.reg [oa 66 5,⟨some 67, none, .bin .eql (xt 66) (.c (.i .u8 35))⟩,oa 65 67])
 (.cond (xt 65) (.seq (.reg [oa 68 0,oa 69 1,⟨some 70, none, .call 356 [(xt 68), (xt 69)]⟩,os 8 4 70])
 (.ret))
 (.seq (.reg [oa 72 5,⟨some 73, none, .bin .eql (xt 72) (.c (.i .u8 60))⟩,oa 74 73,ot 75 74 6,⟨some 76, yt 74, .bin .eql (xt 75) (.c (.i .u8 61))⟩,ot 77 74 76,on 78 77 6,⟨some 79, yn 77, .bin .eql (xt 78) (.c (.i .u8 33))⟩,⟨some 80, yt 74, .pick (xt 77) (.c (.b true)) (xt 79)⟩,⟨some 81, none, .pick (xt 74) (xt 80) (.c (.b false))⟩,oa 71 81])
 (.cond (xt 71) (.seq (.reg [oa 82 0,oa 83 1,⟨some 84, none, .bin .add (xt 83) (xi 4)⟩,oc 85 82,of 86 1 85,os 1 86 84])
 (.seq (.regd [oa 87 6,⟨some 88, none, .call 355 [(xt 87), (xi 3), (xi 4)]⟩,oa 89 0,oc 90 89,of 91 2 90,od 92 4 91,⟨some 93, none, .build [z0, z0, (.s ⟨#[]⟩), (.b false), (.b false), (.b false), (.b false), (.b false)] [(0, 1, (xi 10)), (1, 1, (xt 88)), (3, 4, (xt 92))]⟩,os 8 4 93] [(5, 1)])
 (.ret)))
 (.seq (.reg [oa 95 5,⟨some 96, none, .bin .eql (xt 95) (.c (.i .u8 60))⟩,oa 94 96])
 (.cond (xt 94) (.seq (.reg [oa 97 0,oa 98 1,⟨some 99, none, .bin .add (xt 98) (xi 3)⟩,⟨some 100, none, .call 357 [(xt 97), (xt 99)]⟩,os 8 4 100])
 (.ret))
 (.skip))))))))))))))
 (.seq (.reg [oa 101 0,oa 102 1,⟨some 103, none, .bin .add (xt 102) (xi 2)⟩,oc 104 101,of 105 1 104,os 1 105 103])
 (.seq (.reg [oa 106 0,⟨some 107, none, .call 358 [(xt 106)]⟩,os 8 4 107])
 (.ret)))))))
theorem fn342 : F 342 = .go 108 [.c 4 (some 8)] v342 := by rw [F, fnOf, Tryz.func342]; kernel_rfl

end Go.Proofs.YtjlckbphpmogjaaGreatDoor
