/- The functions that the law reaches, as instructions of the ideal machine; and the proof that they are what the given program compiles to. -/
import Derived.Test.YthlhcdldighffaaChecked
import Derived.Test.YthlhcdldighffaaImG
import Derived.KernelRfl
namespace Go.Proofs.Ythlhcdldighffaa.Tab
open Go Go.IM
set_option maxRecDepth 100000
/-- bandplan/bandplanlaw10.TerrainFlat -/
def ic3 : IFn := { ntmps := 77, results := [.tmp 8], code := (.seq (.ops false [
    ⟨(some 8), none, false, .mov (.const (Value.bool false))⟩]) (.seq (.ops false [
    ⟨(some 12), none, false, .mov (.tmp 0)⟩,
    ⟨(some 13), none, false, .mov (.tmp 1)⟩,
    ⟨(some 14), none, false, .mov (.tmp 2)⟩,
    ⟨(some 15), none, false, .mov (.tmp 3)⟩,
    ⟨(some 16), none, false, .call (.func 11) [.tmp 12, .tmp 13, .tmp 14, .tmp 15]⟩,
    ⟨(some 11), none, false, .mov (.tmp 16)⟩,
    ⟨(some 17), none, false, .ext (.tmp 11) 0⟩,
    ⟨(some 18), none, false, .ext (.tmp 11) 1⟩,
    ⟨(some 9), none, false, .new [.int .i64 0, .int .i64 0, .slice none 0 0, .slice none 0 0]⟩,
    ⟨none, none, false, .sto 4 (.tmp 9) (.tmp 17)⟩,
    ⟨(some 10), none, false, .mov (.tmp 18)⟩]) (.seq (.seq (.ops false [
    ⟨(some 19), none, false, .mov (.tmp 0)⟩,
    ⟨(some 20), none, false, .bin .lss (.tmp 19) (.const (Value.int IntKind.i64 1))⟩,
    ⟨(some 21), none, false, .mov (.tmp 20)⟩,
    ⟨(some 22), (some (21, false)), false, .mov (.tmp 0)⟩,
    ⟨(some 23), (some (21, false)), false, .bin .gtr (.tmp 22) (.const (Value.int IntKind.i64 64))⟩,
    ⟨(some 24), none, false, .pick (.tmp 21) (.const (Value.bool true)) (.tmp 23)⟩,
    ⟨(some 25), none, false, .mov (.tmp 24)⟩,
    ⟨(some 26), (some (25, false)), false, .mov (.tmp 1)⟩,
    ⟨(some 27), (some (25, false)), false, .bin .lss (.tmp 26) (.const (Value.int IntKind.i64 1))⟩,
    ⟨(some 28), none, false, .pick (.tmp 25) (.const (Value.bool true)) (.tmp 27)⟩,
    ⟨(some 29), none, false, .mov (.tmp 28)⟩,
    ⟨(some 30), (some (29, false)), false, .mov (.tmp 1)⟩,
    ⟨(some 31), (some (29, false)), false, .bin .gtr (.tmp 30) (.const (Value.int IntKind.i64 64))⟩,
    ⟨(some 32), none, false, .pick (.tmp 29) (.const (Value.bool true)) (.tmp 31)⟩,
    ⟨(some 33), none, false, .mov (.tmp 32)⟩,
    ⟨(some 34), (some (33, false)), false, .mov (.tmp 2)⟩,
    ⟨(some 35), (some (33, false)), false, .bin .lss (.tmp 34) (.const (Value.int IntKind.i64 0))⟩,
    ⟨(some 36), none, false, .pick (.tmp 33) (.const (Value.bool true)) (.tmp 35)⟩,
    ⟨(some 37), none, false, .mov (.tmp 36)⟩,
    ⟨(some 38), (some (37, false)), false, .mov (.tmp 2)⟩,
    ⟨(some 39), (some (37, false)), false, .bin .gtr (.tmp 38) (.const (Value.int IntKind.i64 9000))⟩,
    ⟨(some 40), none, false, .pick (.tmp 37) (.const (Value.bool true)) (.tmp 39)⟩,
    ⟨(some 41), none, false, .mov (.tmp 40)⟩,
    ⟨(some 42), (some (41, false)), false, .mov (.tmp 3)⟩,
    ⟨(some 43), (some (41, false)), false, .bin .lss (.tmp 42) (.const (Value.int IntKind.i64 0))⟩,
    ⟨(some 44), none, false, .pick (.tmp 41) (.const (Value.bool true)) (.tmp 43)⟩,
    ⟨(some 45), none, false, .mov (.tmp 44)⟩,
    ⟨(some 46), (some (45, false)), false, .mov (.tmp 3)⟩,
    ⟨(some 47), (some (45, false)), false, .bin .gtr (.tmp 46) (.const (Value.int IntKind.i64 1000000))⟩,
    ⟨(some 48), none, false, .pick (.tmp 45) (.const (Value.bool true)) (.tmp 47)⟩]) (.cond (.tmp 48) (.seq (.ops false [
    ⟨(some 49), none, false, .ldn 4 (.tmp 9)⟩,
    ⟨(some 50), none, false, .bld [.int .i64 0, .int .i64 0, .slice none 0 0, .slice none 0 0] []⟩,
    ⟨(some 51), none, false, .call (.func 12) [.tmp 49, .tmp 50]⟩,
    ⟨(some 52), none, false, .mov (.tmp 51)⟩,
    ⟨(some 53), (some (52, true)), false, .mov (.tmp 10)⟩,
    ⟨(some 54), (some (52, true)), false, .bin .eql (.tmp 53) (.const (Value.int IntKind.i64 2))⟩,
    ⟨(some 55), none, false, .pick (.tmp 52) (.tmp 54) (.const (Value.bool false))⟩,
    ⟨(some 56), none, false, .mov (.tmp 55)⟩,
    ⟨(some 57), (some (56, true)), false, .call (.func 13) []⟩,
    ⟨(some 58), none, false, .pick (.tmp 56) (.tmp 57) (.const (Value.bool false))⟩,
    ⟨(some 8), none, false, .mov (.tmp 58)⟩]) .ret) .skip)) (.seq (.ops true [
    ⟨(some 59), none, false, .mov (.tmp 10)⟩,
    ⟨(some 60), none, false, .bin .eql (.tmp 59) (.const (Value.int IntKind.i64 0))⟩,
    ⟨(some 61), none, false, .mov (.tmp 60)⟩,
    ⟨(some 62), (some (61, true)), false, .ldn 4 (.tmp 9)⟩,
    ⟨(some 63), (some (61, true)), false, .mov (.tmp 0)⟩,
    ⟨(some 64), (some (61, true)), false, .mov (.tmp 1)⟩,
    ⟨(some 65), (some (61, true)), false, .mov (.tmp 2)⟩,
    ⟨(some 66), (some (61, true)), false, .mov (.tmp 3)⟩,
    ⟨(some 67), (some (61, true)), true, .call (.func 14) [.tmp 63, .tmp 64, .tmp 65, .tmp 66]⟩,
    ⟨(some 68), (some (61, true)), false, .call (.func 12) [.tmp 62, .tmp 67]⟩,
    ⟨(some 69), none, false, .pick (.tmp 61) (.tmp 68) (.const (Value.bool false))⟩,
    ⟨(some 70), none, false, .mov (.tmp 69)⟩,
    ⟨(some 71), (some (70, true)), false, .ldn 4 (.tmp 9)⟩,
    ⟨(some 72), (some (70, true)), false, .call (.func 15) [.tmp 71]⟩,
    ⟨(some 73), none, false, .pick (.tmp 70) (.tmp 72) (.const (Value.bool false))⟩,
    ⟨(some 74), none, false, .mov (.tmp 73)⟩,
    ⟨(some 75), (some (74, true)), false, .call (.func 13) []⟩,
    ⟨(some 76), none, false, .pick (.tmp 74) (.tmp 75) (.const (Value.bool false))⟩,
    ⟨(some 8), none, false, .mov (.tmp 76)⟩]) .ret)))) }
theorem t3 : tabP Try.prog 0 3 = some ic3 := by kernel_rfl
/-- bandplan/bandplanlaw10.TerrainSets -/
def ic4 : IFn := { ntmps := 117, results := [.tmp 8], code := (.seq (.ops false [
    ⟨(some 4), none, false, .box 4 (.tmp 0)⟩,
    ⟨(some 5), none, false, .box 2 (.tmp 1)⟩,
    ⟨(some 8), none, false, .mov (.const (Value.bool false))⟩]) (.seq (.seq (.ops false [
    ⟨(some 13), none, false, .ldn 4 (.tmp 4)⟩,
    ⟨(some 14), none, false, .call (.func 16) [.tmp 13]⟩]) (.cond (.tmp 14) (.seq (.ops false [
    ⟨(some 15), none, false, .call (.func 13) []⟩,
    ⟨(some 8), none, false, .mov (.tmp 15)⟩]) .ret) .skip)) (.seq (.ops true [
    ⟨(some 16), none, false, .fad 0 (.tmp 4)⟩,
    ⟨(some 17), none, false, .ld1 (.tmp 16)⟩,
    ⟨(some 18), none, false, .fad 1 (.tmp 4)⟩,
    ⟨(some 19), none, false, .ld1 (.tmp 18)⟩,
    ⟨(some 20), none, false, .bsl 0 [] []⟩,
    ⟨(some 21), none, false, .fad 2 (.tmp 4)⟩,
    ⟨(some 22), none, false, .ld1 (.tmp 21)⟩,
    ⟨(some 23), none, true, .app 1 8 (.tmp 20) (.tmp 22)⟩,
    ⟨(some 24), none, false, .bsl 0 [] []⟩,
    ⟨(some 25), none, false, .fad 3 (.tmp 4)⟩,
    ⟨(some 26), none, false, .ld1 (.tmp 25)⟩,
    ⟨(some 27), none, true, .app 1 8 (.tmp 24) (.tmp 26)⟩,
    ⟨(some 28), none, false, .bld [.int .i64 0, .int .i64 0, .slice none 0 0, .slice none 0 0] [(0, 1, .tmp 17), (1, 1, .tmp 19), (2, 1, .tmp 23), (3, 1, .tmp 27)]⟩,
    ⟨(some 9), none, false, .new [.int .i64 0, .int .i64 0, .slice none 0 0, .slice none 0 0]⟩,
    ⟨none, none, false, .sto 4 (.tmp 9) (.tmp 28)⟩]) (.seq (.ops false [
    ⟨(some 30), none, false, .ldn 4 (.tmp 4)⟩,
    ⟨(some 31), none, false, .ldn 2 (.tmp 5)⟩,
    ⟨(some 32), none, false, .mov (.tmp 2)⟩,
    ⟨(some 33), none, false, .mov (.tmp 3)⟩,
    ⟨(some 34), none, false, .call (.func 17) [.tmp 30, .tmp 31, .tmp 32, .tmp 33]⟩,
    ⟨(some 29), none, false, .mov (.tmp 34)⟩,
    ⟨(some 35), none, false, .ext (.tmp 29) 0⟩,
    ⟨(some 36), none, false, .ext (.tmp 29) 1⟩,
    ⟨(some 10), none, false, .new [.int .i64 0, .int .i64 0, .slice none 0 0, .slice none 0 0]⟩,
    ⟨none, none, false, .sto 4 (.tmp 10) (.tmp 35)⟩,
    ⟨(some 11), none, false, .mov (.tmp 36)⟩]) (.seq (.seq (.ops false [
    ⟨(some 37), none, false, .ldn 4 (.tmp 4)⟩,
    ⟨(some 38), none, false, .ldn 2 (.tmp 5)⟩,
    ⟨(some 39), none, false, .call (.func 18) [.tmp 37, .tmp 38]⟩,
    ⟨(some 40), none, false, .una .not (.tmp 39)⟩,
    ⟨(some 41), none, false, .mov (.tmp 40)⟩,
    ⟨(some 42), (some (41, false)), false, .mov (.tmp 2)⟩,
    ⟨(some 43), (some (41, false)), false, .bin .lss (.tmp 42) (.const (Value.int IntKind.i64 0))⟩,
    ⟨(some 44), none, false, .pick (.tmp 41) (.const (Value.bool true)) (.tmp 43)⟩,
    ⟨(some 45), none, false, .mov (.tmp 44)⟩,
    ⟨(some 46), (some (45, false)), false, .mov (.tmp 2)⟩,
    ⟨(some 47), (some (45, false)), false, .bin .gtr (.tmp 46) (.const (Value.int IntKind.i64 9000))⟩,
    ⟨(some 48), none, false, .pick (.tmp 45) (.const (Value.bool true)) (.tmp 47)⟩,
    ⟨(some 49), none, false, .mov (.tmp 48)⟩,
    ⟨(some 50), (some (49, false)), false, .mov (.tmp 3)⟩,
    ⟨(some 51), (some (49, false)), false, .bin .lss (.tmp 50) (.const (Value.int IntKind.i64 0))⟩,
    ⟨(some 52), none, false, .pick (.tmp 49) (.const (Value.bool true)) (.tmp 51)⟩,
    ⟨(some 53), none, false, .mov (.tmp 52)⟩,
    ⟨(some 54), (some (53, false)), false, .mov (.tmp 3)⟩,
    ⟨(some 55), (some (53, false)), false, .bin .gtr (.tmp 54) (.const (Value.int IntKind.i64 1000000))⟩,
    ⟨(some 56), none, false, .pick (.tmp 53) (.const (Value.bool true)) (.tmp 55)⟩]) (.cond (.tmp 56) (.seq (.ops false [
    ⟨(some 57), none, false, .ldn 4 (.tmp 10)⟩,
    ⟨(some 58), none, false, .bld [.int .i64 0, .int .i64 0, .slice none 0 0, .slice none 0 0] []⟩,
    ⟨(some 59), none, false, .call (.func 12) [.tmp 57, .tmp 58]⟩,
    ⟨(some 60), none, false, .mov (.tmp 59)⟩,
    ⟨(some 61), (some (60, true)), false, .mov (.tmp 11)⟩,
    ⟨(some 62), (some (60, true)), false, .bin .eql (.tmp 61) (.const (Value.int IntKind.i64 2))⟩,
    ⟨(some 63), none, false, .pick (.tmp 60) (.tmp 62) (.const (Value.bool false))⟩,
    ⟨(some 64), none, false, .mov (.tmp 63)⟩,
    ⟨(some 65), (some (64, true)), false, .ldn 4 (.tmp 4)⟩,
    ⟨(some 66), (some (64, true)), false, .ldn 4 (.tmp 9)⟩,
    ⟨(some 67), (some (64, true)), false, .call (.func 12) [.tmp 65, .tmp 66]⟩,
    ⟨(some 68), none, false, .pick (.tmp 64) (.tmp 67) (.const (Value.bool false))⟩,
    ⟨(some 69), none, false, .mov (.tmp 68)⟩,
    ⟨(some 70), (some (69, true)), false, .call (.func 13) []⟩,
    ⟨(some 71), none, false, .pick (.tmp 69) (.tmp 70) (.const (Value.bool false))⟩,
    ⟨(some 8), none, false, .mov (.tmp 71)⟩]) .ret) .skip)) (.seq (.seq (.ops true [
    ⟨(some 72), none, false, .mov (.tmp 11)⟩,
    ⟨(some 73), none, false, .bin .neq (.tmp 72) (.const (Value.int IntKind.i64 0))⟩,
    ⟨(some 74), none, false, .mov (.tmp 73)⟩,
    ⟨(some 75), (some (74, false)), false, .ldn 4 (.tmp 10)⟩,
    ⟨(some 76), (some (74, false)), false, .ldn 4 (.tmp 4)⟩,
    ⟨(some 77), (some (74, false)), false, .ldn 2 (.tmp 5)⟩,
    ⟨(some 78), (some (74, false)), false, .mov (.tmp 2)⟩,
    ⟨(some 79), (some (74, false)), false, .mov (.tmp 3)⟩,
    ⟨(some 80), (some (74, false)), true, .call (.func 19) [.tmp 76, .tmp 77, .tmp 78, .tmp 79]⟩,
    ⟨(some 81), (some (74, false)), false, .call (.func 12) [.tmp 75, .tmp 80]⟩,
    ⟨(some 82), (some (74, false)), false, .una .not (.tmp 81)⟩,
    ⟨(some 83), none, false, .pick (.tmp 74) (.const (Value.bool true)) (.tmp 82)⟩,
    ⟨(some 84), none, false, .mov (.tmp 83)⟩,
    ⟨(some 85), (some (84, false)), false, .ldn 4 (.tmp 4)⟩,
    ⟨(some 86), (some (84, false)), false, .ldn 4 (.tmp 9)⟩,
    ⟨(some 87), (some (84, false)), false, .call (.func 12) [.tmp 85, .tmp 86]⟩,
    ⟨(some 88), (some (84, false)), false, .una .not (.tmp 87)⟩,
    ⟨(some 89), none, false, .pick (.tmp 84) (.const (Value.bool true)) (.tmp 88)⟩]) (.cond (.tmp 89) (.seq (.ops false [
    ⟨(some 8), none, false, .mov (.const (Value.bool false))⟩]) .ret) .skip)) (.seq (.seq (.ops false [
    ⟨(some 12), none, false, .mov (.const (Value.int IntKind.i64 0))⟩]) (.block 0 (.loop (.seq (.seq (.ops false [
    ⟨(some 90), none, false, .mov (.tmp 12)⟩,
    ⟨(some 91), none, false, .fad 2 (.tmp 10)⟩,
    ⟨(some 92), none, false, .ld1 (.tmp 91)⟩,
    ⟨(some 93), none, false, .len .sl (.tmp 92)⟩,
    ⟨(some 94), none, false, .bin .lss (.tmp 90) (.tmp 93)⟩]) (.cond (.tmp 94) .skip (.exit 0))) (.seq (.block 1 (.seq (.ops false [
    ⟨(some 97), none, false, .fad 2 (.tmp 10)⟩,
    ⟨(some 98), none, false, .ld1 (.tmp 97)⟩,
    ⟨(some 99), none, false, .mov (.tmp 12)⟩,
    ⟨(some 100), none, false, .ixs 1 (.tmp 98) (.tmp 99)⟩,
    ⟨(some 101), none, false, .ld1 (.tmp 100)⟩,
    ⟨(some 102), none, false, .bin .add (.tmp 101) (.const (Value.int IntKind.i64 1))⟩,
    ⟨(some 103), none, false, .ixs 1 (.tmp 98) (.tmp 99)⟩,
    ⟨none, none, false, .sto 1 (.tmp 103) (.tmp 102)⟩]) (.ops false [
    ⟨(some 104), none, false, .fad 3 (.tmp 10)⟩,
    ⟨(some 105), none, false, .ld1 (.tmp 104)⟩,
    ⟨(some 106), none, false, .mov (.tmp 12)⟩,
    ⟨(some 107), none, false, .ixs 1 (.tmp 105) (.tmp 106)⟩,
    ⟨(some 108), none, false, .ld1 (.tmp 107)⟩,
    ⟨(some 109), none, false, .bin .add (.tmp 108) (.const (Value.int IntKind.i64 1))⟩,
    ⟨(some 110), none, false, .ixs 1 (.tmp 105) (.tmp 106)⟩,
    ⟨none, none, false, .sto 1 (.tmp 110) (.tmp 109)⟩]))) (.ops false [
    ⟨(some 95), none, false, .mov (.tmp 12)⟩,
    ⟨(some 96), none, false, .bin .add (.tmp 95) (.const (Value.int IntKind.i64 1))⟩,
    ⟨(some 12), none, false, .mov (.tmp 96)⟩])))))) (.seq (.ops false [
    ⟨(some 111), none, false, .ldn 4 (.tmp 4)⟩,
    ⟨(some 112), none, false, .ldn 4 (.tmp 9)⟩,
    ⟨(some 113), none, false, .call (.func 12) [.tmp 111, .tmp 112]⟩,
    ⟨(some 114), none, false, .mov (.tmp 113)⟩,
    ⟨(some 115), (some (114, true)), false, .call (.func 13) []⟩,
    ⟨(some 116), none, false, .pick (.tmp 114) (.tmp 115) (.const (Value.bool false))⟩,
    ⟨(some 8), none, false, .mov (.tmp 116)⟩]) .ret)))))))) }
theorem t4 : tabP Try.prog 0 4 = some ic4 := by kernel_rfl
/-- bandplan/bandplanlaw10.TerrainLines -/
def ic5 : IFn := { ntmps := 59, results := [.tmp 4], code := (.seq (.ops false [
    ⟨(some 2), none, false, .box 2 (.tmp 0)⟩,
    ⟨(some 3), none, false, .box 2 (.tmp 1)⟩,
    ⟨(some 4), none, false, .mov (.const (Value.bool false))⟩]) (.seq (.ops false [
    ⟨(some 10), none, false, .ldn 2 (.tmp 2)⟩,
    ⟨(some 11), none, false, .ldn 2 (.tmp 3)⟩,
    ⟨(some 12), none, false, .call (.func 20) [.tmp 10, .tmp 11]⟩,
    ⟨(some 9), none, false, .mov (.tmp 12)⟩,
    ⟨(some 13), none, false, .ext (.tmp 9) 0⟩,
    ⟨(some 14), none, false, .ext (.tmp 9) 1⟩,
    ⟨(some 5), none, false, .mov (.tmp 13)⟩,
    ⟨(some 6), none, false, .mov (.tmp 14)⟩]) (.seq (.seq (.ops false [
    ⟨(some 7), none, false, .mov (.const (Value.int IntKind.i64 0))⟩]) (.block 0 (.loop (.seq (.seq (.ops false [
    ⟨(some 15), none, false, .mov (.tmp 7)⟩,
    ⟨(some 16), none, false, .bin .lss (.tmp 15) (.const (Value.int IntKind.i64 4))⟩]) (.cond (.tmp 16) .skip (.exit 0))) (.seq (.block 1 (.seq (.ops false [
    ⟨(some 19), none, false, .fad 0 (.tmp 2)⟩,
    ⟨(some 20), none, false, .ld1 (.tmp 19)⟩,
    ⟨(some 21), none, false, .fad 1 (.tmp 2)⟩,
    ⟨(some 22), none, false, .ld1 (.tmp 21)⟩,
    ⟨(some 23), none, false, .fad 0 (.tmp 3)⟩,
    ⟨(some 24), none, false, .ld1 (.tmp 23)⟩,
    ⟨(some 25), none, false, .fad 1 (.tmp 3)⟩,
    ⟨(some 26), none, false, .ld1 (.tmp 25)⟩,
    ⟨(some 27), none, false, .bsl 4 [.int .i64 0, .int .i64 0, .int .i64 0, .int .i64 0] [(0, 1, .tmp 20), (1, 1, .tmp 22), (2, 1, .tmp 24), (3, 1, .tmp 26)]⟩,
    ⟨(some 28), none, false, .mov (.tmp 7)⟩,
    ⟨(some 29), none, false, .ixs 1 (.tmp 27) (.tmp 28)⟩,
    ⟨(some 30), none, false, .ld1 (.tmp 29)⟩,
    ⟨(some 8), none, false, .mov (.tmp 30)⟩]) (.seq (.ops false [
    ⟨(some 31), none, false, .mov (.tmp 8)⟩,
    ⟨(some 32), none, false, .bin .lss (.tmp 31) (.const (Value.int IntKind.i64 0))⟩,
    ⟨(some 33), none, false, .mov (.tmp 32)⟩,
    ⟨(some 34), (some (33, false)), false, .mov (.tmp 8)⟩,
    ⟨(some 35), (some (33, false)), false, .bin .gtr (.tmp 34) (.const (Value.int IntKind.i64 63))⟩,
    ⟨(some 36), none, false, .pick (.tmp 33) (.const (Value.bool true)) (.tmp 35)⟩]) (.cond (.tmp 36) (.seq (.ops false [
    ⟨(some 37), none, false, .mov (.tmp 5)⟩,
    ⟨(some 38), none, false, .len .sl (.tmp 37)⟩,
    ⟨(some 39), none, false, .bin .eql (.tmp 38) (.const (Value.int IntKind.i64 0))⟩,
    ⟨(some 40), none, false, .mov (.tmp 39)⟩,
    ⟨(some 41), (some (40, true)), false, .mov (.tmp 6)⟩,
    ⟨(some 42), (some (40, true)), false, .bin .eql (.tmp 41) (.const (Value.int IntKind.i64 2))⟩,
    ⟨(some 43), none, false, .pick (.tmp 40) (.tmp 42) (.const (Value.bool false))⟩,
    ⟨(some 44), none, false, .mov (.tmp 43)⟩,
    ⟨(some 45), (some (44, true)), false, .call (.func 13) []⟩,
    ⟨(some 46), none, false, .pick (.tmp 44) (.tmp 45) (.const (Value.bool false))⟩,
    ⟨(some 4), none, false, .mov (.tmp 46)⟩]) .ret) .skip)))) (.ops false [
    ⟨(some 17), none, false, .mov (.tmp 7)⟩,
    ⟨(some 18), none, false, .bin .add (.tmp 17) (.const (Value.int IntKind.i64 1))⟩,
    ⟨(some 7), none, false, .mov (.tmp 18)⟩])))))) (.seq (.ops false [
    ⟨(some 47), none, false, .mov (.tmp 6)⟩,
    ⟨(some 48), none, false, .bin .eql (.tmp 47) (.const (Value.int IntKind.i64 0))⟩,
    ⟨(some 49), none, false, .mov (.tmp 48)⟩,
    ⟨(some 50), (some (49, true)), false, .mov (.tmp 5)⟩,
    ⟨(some 51), (some (49, true)), false, .ldn 2 (.tmp 2)⟩,
    ⟨(some 52), (some (49, true)), false, .ldn 2 (.tmp 3)⟩,
    ⟨(some 53), (some (49, true)), false, .call (.func 22) [.tmp 51, .tmp 52]⟩,
    ⟨(some 54), (some (49, true)), false, .call (.func 21) [.tmp 50, .tmp 53]⟩,
    ⟨(some 55), none, false, .pick (.tmp 49) (.tmp 54) (.const (Value.bool false))⟩,
    ⟨(some 56), none, false, .mov (.tmp 55)⟩,
    ⟨(some 57), (some (56, true)), false, .call (.func 13) []⟩,
    ⟨(some 58), none, false, .pick (.tmp 56) (.tmp 57) (.const (Value.bool false))⟩,
    ⟨(some 4), none, false, .mov (.tmp 58)⟩]) .ret)))) }
theorem t5 : tabP Try.prog 0 5 = some ic5 := by kernel_rfl
/-- bandplan/bandplanlaw10.TerrainProfiles -/
def ic6 : IFn := { ntmps := 82, results := [.tmp 6], code := (.seq (.ops false [
    ⟨(some 3), none, false, .box 4 (.tmp 0)⟩,
    ⟨(some 4), none, false, .box 2 (.tmp 1)⟩,
    ⟨(some 5), none, false, .box 2 (.tmp 2)⟩,
    ⟨(some 6), none, false, .mov (.const (Value.bool false))⟩]) (.seq (.seq (.ops false [
    ⟨(some 11), none, false, .ldn 4 (.tmp 3)⟩,
    ⟨(some 12), none, false, .call (.func 16) [.tmp 11]⟩]) (.cond (.tmp 12) (.seq (.ops false [
    ⟨(some 13), none, false, .call (.func 13) []⟩,
    ⟨(some 6), none, false, .mov (.tmp 13)⟩]) .ret) .skip)) (.seq (.ops false [
    ⟨(some 15), none, false, .ldn 4 (.tmp 3)⟩,
    ⟨(some 16), none, false, .ldn 2 (.tmp 4)⟩,
    ⟨(some 17), none, false, .ldn 2 (.tmp 5)⟩,
    ⟨(some 18), none, false, .call (.func 23) [.tmp 15, .tmp 16, .tmp 17]⟩,
    ⟨(some 14), none, false, .mov (.tmp 18)⟩,
    ⟨(some 19), none, false, .ext (.tmp 14) 0⟩,
    ⟨(some 20), none, false, .ext (.tmp 14) 1⟩,
    ⟨(some 7), none, false, .mov (.tmp 19)⟩,
    ⟨(some 8), none, false, .mov (.tmp 20)⟩]) (.seq (.ops false [
    ⟨(some 22), none, false, .ldn 4 (.tmp 3)⟩,
    ⟨(some 23), none, false, .ldn 2 (.tmp 4)⟩,
    ⟨(some 24), none, false, .ldn 2 (.tmp 5)⟩,
    ⟨(some 25), none, false, .call (.func 24) [.tmp 22, .tmp 23, .tmp 24]⟩,
    ⟨(some 21), none, false, .mov (.tmp 25)⟩,
    ⟨(some 26), none, false, .ext (.tmp 21) 0⟩,
    ⟨(some 27), none, false, .ext (.tmp 21) 1⟩,
    ⟨(some 9), none, false, .mov (.tmp 26)⟩,
    ⟨(some 10), none, false, .mov (.tmp 27)⟩]) (.seq (.seq (.ops false [
    ⟨(some 28), none, false, .ldn 4 (.tmp 3)⟩,
    ⟨(some 29), none, false, .ldn 2 (.tmp 4)⟩,
    ⟨(some 30), none, false, .call (.func 18) [.tmp 28, .tmp 29]⟩,
    ⟨(some 31), none, false, .una .not (.tmp 30)⟩,
    ⟨(some 32), none, false, .mov (.tmp 31)⟩,
    ⟨(some 33), (some (32, false)), false, .ldn 4 (.tmp 3)⟩,
    ⟨(some 34), (some (32, false)), false, .ldn 2 (.tmp 5)⟩,
    ⟨(some 35), (some (32, false)), false, .call (.func 18) [.tmp 33, .tmp 34]⟩,
    ⟨(some 36), (some (32, false)), false, .una .not (.tmp 35)⟩,
    ⟨(some 37), none, false, .pick (.tmp 32) (.const (Value.bool true)) (.tmp 36)⟩]) (.cond (.tmp 37) (.seq (.ops false [
    ⟨(some 38), none, false, .mov (.tmp 7)⟩,
    ⟨(some 39), none, false, .len .sl (.tmp 38)⟩,
    ⟨(some 40), none, false, .bin .eql (.tmp 39) (.const (Value.int IntKind.i64 0))⟩,
    ⟨(some 41), none, false, .mov (.tmp 40)⟩,
    ⟨(some 42), (some (41, true)), false, .mov (.tmp 8)⟩,
    ⟨(some 43), (some (41, true)), false, .bin .eql (.tmp 42) (.const (Value.int IntKind.i64 2))⟩,
    ⟨(some 44), none, false, .pick (.tmp 41) (.tmp 43) (.const (Value.bool false))⟩,
    ⟨(some 45), none, false, .mov (.tmp 44)⟩,
    ⟨(some 46), (some (45, true)), false, .mov (.tmp 9)⟩,
    ⟨(some 47), (some (45, true)), false, .len .sl (.tmp 46)⟩,
    ⟨(some 48), (some (45, true)), false, .bin .eql (.tmp 47) (.const (Value.int IntKind.i64 0))⟩,
    ⟨(some 49), none, false, .pick (.tmp 45) (.tmp 48) (.const (Value.bool false))⟩,
    ⟨(some 50), none, false, .mov (.tmp 49)⟩,
    ⟨(some 51), (some (50, true)), false, .mov (.tmp 10)⟩,
    ⟨(some 52), (some (50, true)), false, .bin .eql (.tmp 51) (.const (Value.int IntKind.i64 2))⟩,
    ⟨(some 53), none, false, .pick (.tmp 50) (.tmp 52) (.const (Value.bool false))⟩,
    ⟨(some 54), none, false, .mov (.tmp 53)⟩,
    ⟨(some 55), (some (54, true)), false, .call (.func 13) []⟩,
    ⟨(some 56), none, false, .pick (.tmp 54) (.tmp 55) (.const (Value.bool false))⟩,
    ⟨(some 6), none, false, .mov (.tmp 56)⟩]) .ret) .skip)) (.seq (.ops false [
    ⟨(some 57), none, false, .mov (.tmp 8)⟩,
    ⟨(some 58), none, false, .bin .eql (.tmp 57) (.const (Value.int IntKind.i64 0))⟩,
    ⟨(some 59), none, false, .mov (.tmp 58)⟩,
    ⟨(some 60), (some (59, true)), false, .mov (.tmp 7)⟩,
    ⟨(some 61), (some (59, true)), false, .ldn 4 (.tmp 3)⟩,
    ⟨(some 62), (some (59, true)), false, .ldn 2 (.tmp 4)⟩,
    ⟨(some 63), (some (59, true)), false, .ldn 2 (.tmp 5)⟩,
    ⟨(some 64), (some (59, true)), false, .call (.func 26) [.tmp 61, .tmp 62, .tmp 63]⟩,
    ⟨(some 65), (some (59, true)), false, .call (.func 25) [.tmp 60, .tmp 64]⟩,
    ⟨(some 66), none, false, .pick (.tmp 59) (.tmp 65) (.const (Value.bool false))⟩,
    ⟨(some 67), none, false, .mov (.tmp 66)⟩,
    ⟨(some 68), (some (67, true)), false, .mov (.tmp 10)⟩,
    ⟨(some 69), (some (67, true)), false, .bin .eql (.tmp 68) (.const (Value.int IntKind.i64 0))⟩,
    ⟨(some 70), none, false, .pick (.tmp 67) (.tmp 69) (.const (Value.bool false))⟩,
    ⟨(some 71), none, false, .mov (.tmp 70)⟩,
    ⟨(some 72), (some (71, true)), false, .mov (.tmp 9)⟩,
    ⟨(some 73), (some (71, true)), false, .ldn 4 (.tmp 3)⟩,
    ⟨(some 74), (some (71, true)), false, .ldn 2 (.tmp 4)⟩,
    ⟨(some 75), (some (71, true)), false, .ldn 2 (.tmp 5)⟩,
    ⟨(some 76), (some (71, true)), false, .call (.func 27) [.tmp 73, .tmp 74, .tmp 75]⟩,
    ⟨(some 77), (some (71, true)), false, .call (.func 25) [.tmp 72, .tmp 76]⟩,
    ⟨(some 78), none, false, .pick (.tmp 71) (.tmp 77) (.const (Value.bool false))⟩,
    ⟨(some 79), none, false, .mov (.tmp 78)⟩,
    ⟨(some 80), (some (79, true)), false, .call (.func 13) []⟩,
    ⟨(some 81), none, false, .pick (.tmp 79) (.tmp 80) (.const (Value.bool false))⟩,
    ⟨(some 6), none, false, .mov (.tmp 81)⟩]) .ret)))))) }
theorem t6 : tabP Try.prog 0 6 = some ic6 := by kernel_rfl
/-- bandplan/bandplanlaw10.TerrainTotals -/
def ic7 : IFn := { ntmps := 62, results := [.tmp 4], code := (.seq (.ops false [
    ⟨(some 2), none, false, .box 4 (.tmp 0)⟩,
    ⟨(some 4), none, false, .mov (.const (Value.bool false))⟩]) (.seq (.seq (.ops false [
    ⟨(some 9), none, false, .ldn 4 (.tmp 2)⟩,
    ⟨(some 10), none, false, .call (.func 16) [.tmp 9]⟩,
    ⟨(some 11), none, false, .mov (.tmp 10)⟩,
    ⟨(some 12), (some (11, false)), false, .mov (.tmp 1)⟩,
    ⟨(some 13), (some (11, false)), false, .len .sl (.tmp 12)⟩,
    ⟨(some 14), (some (11, false)), false, .bin .gtr (.tmp 13) (.const (Value.int IntKind.i64 100))⟩,
    ⟨(some 15), none, false, .pick (.tmp 11) (.const (Value.bool true)) (.tmp 14)⟩]) (.cond (.tmp 15) (.seq (.ops false [
    ⟨(some 16), none, false, .call (.func 13) []⟩,
    ⟨(some 4), none, false, .mov (.tmp 16)⟩]) .ret) .skip)) (.seq (.ops false [
    ⟨(some 18), none, false, .ldn 4 (.tmp 2)⟩,
    ⟨(some 19), none, false, .mov (.tmp 1)⟩,
    ⟨(some 20), none, false, .call (.func 28) [.tmp 18, .tmp 19]⟩,
    ⟨(some 17), none, false, .mov (.tmp 20)⟩,
    ⟨(some 21), none, false, .ext (.tmp 17) 0⟩,
    ⟨(some 22), none, false, .ext (.tmp 17) 1⟩,
    ⟨(some 5), none, false, .mov (.tmp 21)⟩,
    ⟨(some 6), none, false, .mov (.tmp 22)⟩]) (.seq (.seq (.ops false [
    ⟨(some 23), none, false, .ldn 4 (.tmp 2)⟩,
    ⟨(some 24), none, false, .call (.func 29) [.tmp 23]⟩,
    ⟨(some 25), none, false, .una .not (.tmp 24)⟩]) (.cond (.tmp 25) (.seq (.ops false [
    ⟨(some 26), none, false, .mov (.tmp 5)⟩,
    ⟨(some 27), none, false, .bin .eql (.tmp 26) (.const (Value.int IntKind.i64 0))⟩,
    ⟨(some 28), none, false, .mov (.tmp 27)⟩,
    ⟨(some 29), (some (28, true)), false, .mov (.tmp 6)⟩,
    ⟨(some 30), (some (28, true)), false, .bin .eql (.tmp 29) (.const (Value.int IntKind.i64 2))⟩,
    ⟨(some 31), none, false, .pick (.tmp 28) (.tmp 30) (.const (Value.bool false))⟩,
    ⟨(some 32), none, false, .mov (.tmp 31)⟩,
    ⟨(some 33), (some (32, true)), false, .call (.func 13) []⟩,
    ⟨(some 34), none, false, .pick (.tmp 32) (.tmp 33) (.const (Value.bool false))⟩,
    ⟨(some 4), none, false, .mov (.tmp 34)⟩]) .ret) .skip)) (.seq (.ops false [
    ⟨(some 36), none, false, .ldn 4 (.tmp 2)⟩,
    ⟨(some 37), none, false, .mov (.tmp 1)⟩,
    ⟨(some 38), none, false, .call (.func 30) [.tmp 36, .tmp 37]⟩,
    ⟨(some 35), none, false, .mov (.tmp 38)⟩,
    ⟨(some 39), none, false, .ext (.tmp 35) 0⟩,
    ⟨(some 40), none, false, .ext (.tmp 35) 1⟩,
    ⟨(some 7), none, false, .mov (.tmp 39)⟩,
    ⟨(some 8), none, false, .mov (.tmp 40)⟩]) (.seq (.seq (.ops false [
    ⟨(some 41), none, false, .mov (.tmp 8)⟩,
    ⟨(some 42), none, false, .una .not (.tmp 41)⟩]) (.cond (.tmp 42) (.seq (.ops false [
    ⟨(some 43), none, false, .mov (.tmp 5)⟩,
    ⟨(some 44), none, false, .bin .eql (.tmp 43) (.const (Value.int IntKind.i64 0))⟩,
    ⟨(some 45), none, false, .mov (.tmp 44)⟩,
    ⟨(some 46), (some (45, true)), false, .mov (.tmp 6)⟩,
    ⟨(some 47), (some (45, true)), false, .bin .eql (.tmp 46) (.const (Value.int IntKind.i64 2))⟩,
    ⟨(some 48), none, false, .pick (.tmp 45) (.tmp 47) (.const (Value.bool false))⟩,
    ⟨(some 49), none, false, .mov (.tmp 48)⟩,
    ⟨(some 50), (some (49, true)), false, .call (.func 13) []⟩,
    ⟨(some 51), none, false, .pick (.tmp 49) (.tmp 50) (.const (Value.bool false))⟩,
    ⟨(some 4), none, false, .mov (.tmp 51)⟩]) .ret) .skip)) (.seq (.ops false [
    ⟨(some 52), none, false, .mov (.tmp 5)⟩,
    ⟨(some 53), none, false, .mov (.tmp 7)⟩,
    ⟨(some 54), none, false, .bin .eql (.tmp 52) (.tmp 53)⟩,
    ⟨(some 55), none, false, .mov (.tmp 54)⟩,
    ⟨(some 56), (some (55, true)), false, .mov (.tmp 6)⟩,
    ⟨(some 57), (some (55, true)), false, .bin .eql (.tmp 56) (.const (Value.int IntKind.i64 0))⟩,
    ⟨(some 58), none, false, .pick (.tmp 55) (.tmp 57) (.const (Value.bool false))⟩,
    ⟨(some 59), none, false, .mov (.tmp 58)⟩,
    ⟨(some 60), (some (59, true)), false, .call (.func 13) []⟩,
    ⟨(some 61), none, false, .pick (.tmp 59) (.tmp 60) (.const (Value.bool false))⟩,
    ⟨(some 4), none, false, .mov (.tmp 61)⟩]) .ret))))))) }
theorem t7 : tabP Try.prog 0 7 = some ic7 := by kernel_rfl
/-- bandplan/bandplanlaw10.TerrainSymmetry -/
def ic8 : IFn := { ntmps := 284, results := [.tmp 8], code := (.seq (.ops false [
    ⟨(some 4), none, false, .box 4 (.tmp 0)⟩,
    ⟨(some 5), none, false, .box 2 (.tmp 1)⟩,
    ⟨(some 6), none, false, .box 2 (.tmp 2)⟩,
    ⟨(some 8), none, false, .mov (.const (Value.bool false))⟩]) (.seq (.seq (.ops false [
    ⟨(some 28), none, false, .ldn 4 (.tmp 4)⟩,
    ⟨(some 29), none, false, .call (.func 16) [.tmp 28]⟩,
    ⟨(some 30), none, false, .mov (.tmp 29)⟩,
    ⟨(some 31), (some (30, false)), false, .ldn 4 (.tmp 4)⟩,
    ⟨(some 32), (some (30, false)), false, .ldn 2 (.tmp 5)⟩,
    ⟨(some 33), (some (30, false)), false, .call (.func 18) [.tmp 31, .tmp 32]⟩,
    ⟨(some 34), (some (30, false)), false, .una .not (.tmp 33)⟩,
    ⟨(some 35), none, false, .pick (.tmp 30) (.const (Value.bool true)) (.tmp 34)⟩,
    ⟨(some 36), none, false, .mov (.tmp 35)⟩,
    ⟨(some 37), (some (36, false)), false, .ldn 4 (.tmp 4)⟩,
    ⟨(some 38), (some (36, false)), false, .ldn 2 (.tmp 6)⟩,
    ⟨(some 39), (some (36, false)), false, .call (.func 18) [.tmp 37, .tmp 38]⟩,
    ⟨(some 40), (some (36, false)), false, .una .not (.tmp 39)⟩,
    ⟨(some 41), none, false, .pick (.tmp 36) (.const (Value.bool true)) (.tmp 40)⟩]) (.cond (.tmp 41) (.seq (.ops false [
    ⟨(some 42), none, false, .call (.func 13) []⟩,
    ⟨(some 8), none, false, .mov (.tmp 42)⟩]) .ret) .skip)) (.seq (.ops false [
    ⟨(some 44), none, false, .ldn 2 (.tmp 5)⟩,
    ⟨(some 45), none, false, .ldn 2 (.tmp 6)⟩,
    ⟨(some 46), none, false, .call (.func 20) [.tmp 44, .tmp 45]⟩,
    ⟨(some 43), none, false, .mov (.tmp 46)⟩,
    ⟨(some 47), none, false, .ext (.tmp 43) 0⟩,
    ⟨(some 48), none, false, .ext (.tmp 43) 1⟩,
    ⟨(some 9), none, false, .mov (.tmp 47)⟩,
    ⟨(some 10), none, false, .mov (.tmp 48)⟩]) (.seq (.ops false [
    ⟨(some 50), none, false, .ldn 2 (.tmp 6)⟩,
    ⟨(some 51), none, false, .ldn 2 (.tmp 5)⟩,
    ⟨(some 52), none, false, .call (.func 20) [.tmp 50, .tmp 51]⟩,
    ⟨(some 49), none, false, .mov (.tmp 52)⟩,
    ⟨(some 53), none, false, .ext (.tmp 49) 0⟩,
    ⟨(some 54), none, false, .ext (.tmp 49) 1⟩,
    ⟨(some 11), none, false, .mov (.tmp 53)⟩,
    ⟨(some 12), none, false, .mov (.tmp 54)⟩]) (.seq (.seq (.ops false [
    ⟨(some 55), none, false, .mov (.tmp 10)⟩,
    ⟨(some 56), none, false, .bin .neq (.tmp 55) (.const (Value.int IntKind.i64 0))⟩,
    ⟨(some 57), none, false, .mov (.tmp 56)⟩,
    ⟨(some 58), (some (57, false)), false, .mov (.tmp 12)⟩,
    ⟨(some 59), (some (57, false)), false, .bin .neq (.tmp 58) (.const (Value.int IntKind.i64 0))⟩,
    ⟨(some 60), none, false, .pick (.tmp 57) (.const (Value.bool true)) (.tmp 59)⟩,
    ⟨(some 61), none, false, .mov (.tmp 60)⟩,
    ⟨(some 62), (some (61, false)), false, .mov (.tmp 9)⟩,
    ⟨(some 63), (some (61, false)), false, .len .sl (.tmp 62)⟩,
    ⟨(some 64), (some (61, false)), false, .mov (.tmp 11)⟩,
    ⟨(some 65), (some (61, false)), false, .len .sl (.tmp 64)⟩,
    ⟨(some 66), (some (61, false)), false, .bin .neq (.tmp 63) (.tmp 65)⟩,
    ⟨(some 67), none, false, .pick (.tmp 61) (.const (Value.bool true)) (.tmp 66)⟩,
    ⟨(some 68), none, false, .mov (.tmp 67)⟩,
    ⟨(some 69), (some (68, false)), false, .mov (.tmp 9)⟩,
    ⟨(some 70), (some (68, false)), false, .len .sl (.tmp 69)⟩,
    ⟨(some 71), (some (68, false)), false, .bin .eql (.tmp 70) (.const (Value.int IntKind.i64 0))⟩,
    ⟨(some 72), (some (68, false)), false, .mov (.tmp 71)⟩,
    ⟨(some 73), (some (72, true)), false, .ldn 2 (.tmp 5)⟩,
    ⟨(some 74), (some (72, true)), false, .ldn 2 (.tmp 6)⟩,
    ⟨(some 75), (some (72, true)), false, .call (.func 31) [.tmp 73, .tmp 74]⟩,
    ⟨(some 76), (some (72, true)), false, .una .not (.tmp 75)⟩,
    ⟨(some 77), (some (68, false)), false, .pick (.tmp 72) (.tmp 76) (.const (Value.bool false))⟩,
    ⟨(some 78), none, false, .pick (.tmp 68) (.const (Value.bool true)) (.tmp 77)⟩]) (.cond (.tmp 78) (.seq (.ops false [
    ⟨(some 8), none, false, .mov (.const (Value.bool false))⟩]) .ret) .skip)) (.seq (.seq (.ops false [
    ⟨(some 13), none, false, .mov (.const (Value.int IntKind.i64 0))⟩]) (.block 0 (.loop (.seq (.seq (.ops false [
    ⟨(some 79), none, false, .mov (.tmp 13)⟩,
    ⟨(some 80), none, false, .mov (.tmp 9)⟩,
    ⟨(some 81), none, false, .len .sl (.tmp 80)⟩,
    ⟨(some 82), none, false, .bin .lss (.tmp 79) (.tmp 81)⟩]) (.cond (.tmp 82) .skip (.exit 0))) (.seq (.block 1 (.seq (.seq (.ops true [
    ⟨(some 85), none, false, .mov (.tmp 9)⟩,
    ⟨(some 86), none, false, .mov (.tmp 13)⟩,
    ⟨(some 87), none, false, .ixs 2 (.tmp 85) (.tmp 86)⟩,
    ⟨(some 88), none, false, .ldn 2 (.tmp 87)⟩,
    ⟨(some 89), none, false, .mov (.tmp 11)⟩,
    ⟨(some 90), none, false, .mov (.tmp 11)⟩,
    ⟨(some 91), none, false, .len .sl (.tmp 90)⟩,
    ⟨(some 92), none, false, .bin .sub (.tmp 91) (.const (Value.int IntKind.i64 1))⟩,
    ⟨(some 93), none, false, .mov (.tmp 13)⟩,
    ⟨(some 94), none, false, .bin .sub (.tmp 92) (.tmp 93)⟩,
    ⟨(some 95), none, false, .ixs 2 (.tmp 89) (.tmp 94)⟩,
    ⟨(some 96), none, false, .ldn 2 (.tmp 95)⟩,
    ⟨(some 97), none, false, .eq (.flat [.i, .i]) true (.tmp 88) (.tmp 96)⟩,
    ⟨(some 98), none, false, .mov (.tmp 97)⟩,
    ⟨(some 99), (some (98, false)), false, .ldn 4 (.tmp 4)⟩,
    ⟨(some 100), (some (98, false)), false, .mov (.tmp 9)⟩,
    ⟨(some 101), (some (98, false)), false, .mov (.tmp 13)⟩,
    ⟨(some 102), (some (98, false)), false, .ixs 2 (.tmp 100) (.tmp 101)⟩,
    ⟨(some 103), (some (98, false)), false, .ldn 2 (.tmp 102)⟩,
    ⟨(some 104), (some (98, false)), false, .call (.func 32) [.tmp 99, .tmp 103]⟩,
    ⟨(some 105), (some (98, false)), false, .una .not (.tmp 104)⟩,
    ⟨(some 106), none, false, .pick (.tmp 98) (.const (Value.bool true)) (.tmp 105)⟩,
    ⟨(some 107), none, false, .mov (.tmp 106)⟩,
    ⟨(some 108), (some (107, false)), false, .mov (.tmp 9)⟩,
    ⟨(some 109), (some (107, false)), false, .mov (.tmp 13)⟩,
    ⟨(some 110), (some (107, false)), false, .ixs 2 (.tmp 108) (.tmp 109)⟩,
    ⟨(some 111), (some (107, false)), false, .ldn 2 (.tmp 110)⟩,
    ⟨(some 112), (some (107, false)), false, .ldn 2 (.tmp 5)⟩,
    ⟨(some 113), (some (107, false)), false, .eq (.flat [.i, .i]) false (.tmp 111) (.tmp 112)⟩,
    ⟨(some 114), none, false, .pick (.tmp 107) (.const (Value.bool true)) (.tmp 113)⟩,
    ⟨(some 115), none, false, .mov (.tmp 114)⟩,
    ⟨(some 116), (some (115, false)), false, .mov (.tmp 9)⟩,
    ⟨(some 117), (some (115, false)), false, .mov (.tmp 13)⟩,
    ⟨(some 118), (some (115, false)), false, .ixs 2 (.tmp 116) (.tmp 117)⟩,
    ⟨(some 119), (some (115, false)), false, .ldn 2 (.tmp 118)⟩,
    ⟨(some 120), (some (115, false)), false, .ldn 2 (.tmp 6)⟩,
    ⟨(some 121), (some (115, false)), false, .eq (.flat [.i, .i]) false (.tmp 119) (.tmp 120)⟩,
    ⟨(some 122), none, false, .pick (.tmp 115) (.const (Value.bool true)) (.tmp 121)⟩]) (.cond (.tmp 122) (.seq (.ops false [
    ⟨(some 8), none, false, .mov (.const (Value.bool false))⟩]) .ret) .skip)) (.seq (.ops true [
    ⟨(some 123), none, false, .mov (.tmp 13)⟩,
    ⟨(some 124), none, false, .bin .gtr (.tmp 123) (.const (Value.int IntKind.i64 0))⟩,
    ⟨(some 125), none, false, .mov (.tmp 124)⟩,
    ⟨(some 126), (some (125, true)), false, .mov (.tmp 9)⟩,
    ⟨(some 127), (some (125, true)), false, .mov (.tmp 13)⟩,
    ⟨(some 128), (some (125, true)), false, .bin .sub (.tmp 127) (.const (Value.int IntKind.i64 1))⟩,
    ⟨(some 129), (some (125, true)), false, .ixs 2 (.tmp 126) (.tmp 128)⟩,
    ⟨(some 130), (some (125, true)), false, .ldn 2 (.tmp 129)⟩,
    ⟨(some 131), (some (125, true)), false, .mov (.tmp 9)⟩,
    ⟨(some 132), (some (125, true)), false, .mov (.tmp 13)⟩,
    ⟨(some 133), (some (125, true)), false, .ixs 2 (.tmp 131) (.tmp 132)⟩,
    ⟨(some 134), (some (125, true)), false, .ldn 2 (.tmp 133)⟩,
    ⟨(some 135), (some (125, true)), false, .call (.func 31) [.tmp 130, .tmp 134]⟩,
    ⟨(some 136), (some (125, true)), false, .una .not (.tmp 135)⟩,
    ⟨(some 137), (some (125, true)), false, .mov (.tmp 136)⟩,
    ⟨(some 138), (some (137, false)), false, .mov (.tmp 9)⟩,
    ⟨(some 139), (some (137, false)), false, .mov (.tmp 13)⟩,
    ⟨(some 140), (some (137, false)), false, .bin .sub (.tmp 139) (.const (Value.int IntKind.i64 1))⟩,
    ⟨(some 141), (some (137, false)), false, .ixs 2 (.tmp 138) (.tmp 140)⟩,
    ⟨(some 142), (some (137, false)), false, .ldn 2 (.tmp 141)⟩,
    ⟨(some 143), (some (137, false)), false, .mov (.tmp 9)⟩,
    ⟨(some 144), (some (137, false)), false, .mov (.tmp 13)⟩,
    ⟨(some 145), (some (137, false)), false, .ixs 2 (.tmp 143) (.tmp 144)⟩,
    ⟨(some 146), (some (137, false)), false, .ldn 2 (.tmp 145)⟩,
    ⟨(some 147), (some (137, false)), false, .eq (.flat [.i, .i]) false (.tmp 142) (.tmp 146)⟩,
    ⟨(some 148), (some (125, true)), false, .pick (.tmp 137) (.const (Value.bool true)) (.tmp 147)⟩,
    ⟨(some 149), none, false, .pick (.tmp 125) (.tmp 148) (.const (Value.bool false))⟩]) (.cond (.tmp 149) (.seq (.ops false [
    ⟨(some 8), none, false, .mov (.const (Value.bool false))⟩]) .ret) .skip)))) (.ops false [
    ⟨(some 83), none, false, .mov (.tmp 13)⟩,
    ⟨(some 84), none, false, .bin .add (.tmp 83) (.const (Value.int IntKind.i64 1))⟩,
    ⟨(some 13), none, false, .mov (.tmp 84)⟩])))))) (.seq (.seq (.ops true [
    ⟨(some 150), none, false, .mov (.tmp 9)⟩,
    ⟨(some 151), none, false, .len .sl (.tmp 150)⟩,
    ⟨(some 152), none, false, .bin .gtr (.tmp 151) (.const (Value.int IntKind.i64 0))⟩,
    ⟨(some 153), none, false, .mov (.tmp 152)⟩,
    ⟨(some 154), (some (153, true)), false, .ldn 2 (.tmp 5)⟩,
    ⟨(some 155), (some (153, true)), false, .mov (.tmp 9)⟩,
    ⟨(some 156), (some (153, true)), false, .ixs 2 (.tmp 155) (.const (Value.int IntKind.i64 0))⟩,
    ⟨(some 157), (some (153, true)), false, .ldn 2 (.tmp 156)⟩,
    ⟨(some 158), (some (153, true)), false, .call (.func 31) [.tmp 154, .tmp 157]⟩,
    ⟨(some 159), (some (153, true)), false, .una .not (.tmp 158)⟩,
    ⟨(some 160), (some (153, true)), false, .mov (.tmp 159)⟩,
    ⟨(some 161), (some (160, false)), false, .mov (.tmp 9)⟩,
    ⟨(some 162), (some (160, false)), false, .mov (.tmp 9)⟩,
    ⟨(some 163), (some (160, false)), false, .len .sl (.tmp 162)⟩,
    ⟨(some 164), (some (160, false)), false, .bin .sub (.tmp 163) (.const (Value.int IntKind.i64 1))⟩,
    ⟨(some 165), (some (160, false)), false, .ixs 2 (.tmp 161) (.tmp 164)⟩,
    ⟨(some 166), (some (160, false)), false, .ldn 2 (.tmp 165)⟩,
    ⟨(some 167), (some (160, false)), false, .ldn 2 (.tmp 6)⟩,
    ⟨(some 168), (some (160, false)), false, .call (.func 31) [.tmp 166, .tmp 167]⟩,
    ⟨(some 169), (some (160, false)), false, .una .not (.tmp 168)⟩,
    ⟨(some 170), (some (153, true)), false, .pick (.tmp 160) (.const (Value.bool true)) (.tmp 169)⟩,
    ⟨(some 171), none, false, .pick (.tmp 153) (.tmp 170) (.const (Value.bool false))⟩]) (.cond (.tmp 171) (.seq (.ops false [
    ⟨(some 8), none, false, .mov (.const (Value.bool false))⟩]) .ret) .skip)) (.seq (.ops true [
    ⟨(some 172), none, false, .fad 0 (.tmp 5)⟩,
    ⟨(some 173), none, false, .ld1 (.tmp 172)⟩,
    ⟨(some 174), none, false, .fad 0 (.tmp 6)⟩,
    ⟨(some 175), none, false, .ld1 (.tmp 174)⟩,
    ⟨(some 14), none, false, .mov (.tmp 173)⟩,
    ⟨(some 15), none, false, .mov (.tmp 175)⟩]) (.seq (.seq (.ops false [
    ⟨(some 176), none, false, .mov (.tmp 14)⟩,
    ⟨(some 177), none, false, .mov (.tmp 15)⟩,
    ⟨(some 178), none, false, .bin .gtr (.tmp 176) (.tmp 177)⟩]) (.cond (.tmp 178) (.ops false [
    ⟨(some 179), none, false, .mov (.tmp 15)⟩,
    ⟨(some 180), none, false, .mov (.tmp 14)⟩,
    ⟨(some 14), none, false, .mov (.tmp 179)⟩,
    ⟨(some 15), none, false, .mov (.tmp 180)⟩]) .skip)) (.seq (.seq (.ops false [
    ⟨(some 181), none, false, .mov (.tmp 3)⟩,
    ⟨(some 182), none, false, .mov (.tmp 14)⟩,
    ⟨(some 183), none, false, .bin .lss (.tmp 181) (.tmp 182)⟩,
    ⟨(some 184), none, false, .mov (.tmp 183)⟩,
    ⟨(some 185), (some (184, false)), false, .mov (.tmp 3)⟩,
    ⟨(some 186), (some (184, false)), false, .mov (.tmp 15)⟩,
    ⟨(some 187), (some (184, false)), false, .bin .geq (.tmp 185) (.tmp 186)⟩,
    ⟨(some 188), none, false, .pick (.tmp 184) (.const (Value.bool true)) (.tmp 187)⟩]) (.cond (.tmp 188) (.seq (.ops false [
    ⟨(some 189), none, false, .call (.func 13) []⟩,
    ⟨(some 8), none, false, .mov (.tmp 189)⟩]) .ret) .skip)) (.seq (.ops false [
    ⟨(some 191), none, false, .ldn 4 (.tmp 4)⟩,
    ⟨(some 192), none, false, .ldn 2 (.tmp 5)⟩,
    ⟨(some 193), none, false, .ldn 2 (.tmp 6)⟩,
    ⟨(some 194), none, false, .call (.func 24) [.tmp 191, .tmp 192, .tmp 193]⟩,
    ⟨(some 190), none, false, .mov (.tmp 194)⟩,
    ⟨(some 195), none, false, .ext (.tmp 190) 0⟩,
    ⟨(some 196), none, false, .ext (.tmp 190) 1⟩,
    ⟨(some 16), none, false, .mov (.tmp 195)⟩,
    ⟨(some 17), none, false, .mov (.tmp 196)⟩]) (.seq (.ops false [
    ⟨(some 198), none, false, .ldn 4 (.tmp 4)⟩,
    ⟨(some 199), none, false, .mov (.tmp 14)⟩,
    ⟨(some 200), none, false, .fad 1 (.tmp 5)⟩,
    ⟨(some 201), none, false, .ld1 (.tmp 200)⟩,
    ⟨(some 202), none, false, .bld [.int .i64 0, .int .i64 0] [(0, 1, .tmp 199), (1, 1, .tmp 201)]⟩,
    ⟨(some 203), none, false, .mov (.tmp 3)⟩,
    ⟨(some 204), none, false, .fad 1 (.tmp 6)⟩,
    ⟨(some 205), none, false, .ld1 (.tmp 204)⟩,
    ⟨(some 206), none, false, .bld [.int .i64 0, .int .i64 0] [(0, 1, .tmp 203), (1, 1, .tmp 205)]⟩,
    ⟨(some 207), none, false, .call (.func 24) [.tmp 198, .tmp 202, .tmp 206]⟩,
    ⟨(some 197), none, false, .mov (.tmp 207)⟩,
    ⟨(some 208), none, false, .ext (.tmp 197) 0⟩,
    ⟨(some 209), none, false, .ext (.tmp 197) 1⟩,
    ⟨(some 18), none, false, .mov (.tmp 208)⟩,
    ⟨(some 19), none, false, .mov (.tmp 209)⟩]) (.seq (.ops false [
    ⟨(some 211), none, false, .ldn 4 (.tmp 4)⟩,
    ⟨(some 212), none, false, .mov (.tmp 3)⟩,
    ⟨(some 213), none, false, .bin .add (.tmp 212) (.const (Value.int IntKind.i64 1))⟩,
    ⟨(some 214), none, false, .fad 1 (.tmp 5)⟩,
    ⟨(some 215), none, false, .ld1 (.tmp 214)⟩,
    ⟨(some 216), none, false, .bld [.int .i64 0, .int .i64 0] [(0, 1, .tmp 213), (1, 1, .tmp 215)]⟩,
    ⟨(some 217), none, false, .mov (.tmp 15)⟩,
    ⟨(some 218), none, false, .fad 1 (.tmp 6)⟩,
    ⟨(some 219), none, false, .ld1 (.tmp 218)⟩,
    ⟨(some 220), none, false, .bld [.int .i64 0, .int .i64 0] [(0, 1, .tmp 217), (1, 1, .tmp 219)]⟩,
    ⟨(some 221), none, false, .call (.func 24) [.tmp 211, .tmp 216, .tmp 220]⟩,
    ⟨(some 210), none, false, .mov (.tmp 221)⟩,
    ⟨(some 222), none, false, .ext (.tmp 210) 0⟩,
    ⟨(some 223), none, false, .ext (.tmp 210) 1⟩,
    ⟨(some 20), none, false, .mov (.tmp 222)⟩,
    ⟨(some 21), none, false, .mov (.tmp 223)⟩]) (.seq (.ops false [
    ⟨(some 225), none, false, .ldn 4 (.tmp 4)⟩,
    ⟨(some 226), none, false, .mov (.tmp 16)⟩,
    ⟨(some 227), none, false, .call (.func 28) [.tmp 225, .tmp 226]⟩,
    ⟨(some 224), none, false, .mov (.tmp 227)⟩,
    ⟨(some 228), none, false, .ext (.tmp 224) 0⟩,
    ⟨(some 229), none, false, .ext (.tmp 224) 1⟩,
    ⟨(some 22), none, false, .mov (.tmp 228)⟩,
    ⟨(some 23), none, false, .mov (.tmp 229)⟩]) (.seq (.ops false [
    ⟨(some 231), none, false, .ldn 4 (.tmp 4)⟩,
    ⟨(some 232), none, false, .mov (.tmp 18)⟩,
    ⟨(some 233), none, false, .call (.func 28) [.tmp 231, .tmp 232]⟩,
    ⟨(some 230), none, false, .mov (.tmp 233)⟩,
    ⟨(some 234), none, false, .ext (.tmp 230) 0⟩,
    ⟨(some 235), none, false, .ext (.tmp 230) 1⟩,
    ⟨(some 24), none, false, .mov (.tmp 234)⟩,
    ⟨(some 25), none, false, .mov (.tmp 235)⟩]) (.seq (.ops false [
    ⟨(some 237), none, false, .ldn 4 (.tmp 4)⟩,
    ⟨(some 238), none, false, .mov (.tmp 20)⟩,
    ⟨(some 239), none, false, .call (.func 28) [.tmp 237, .tmp 238]⟩,
    ⟨(some 236), none, false, .mov (.tmp 239)⟩,
    ⟨(some 240), none, false, .ext (.tmp 236) 0⟩,
    ⟨(some 241), none, false, .ext (.tmp 236) 1⟩,
    ⟨(some 26), none, false, .mov (.tmp 240)⟩,
    ⟨(some 27), none, false, .mov (.tmp 241)⟩]) (.seq (.ops false [
    ⟨(some 242), none, false, .mov (.tmp 17)⟩,
    ⟨(some 243), none, false, .bin .eql (.tmp 242) (.const (Value.int IntKind.i64 0))⟩,
    ⟨(some 244), none, false, .mov (.tmp 243)⟩,
    ⟨(some 245), (some (244, true)), false, .mov (.tmp 19)⟩,
    ⟨(some 246), (some (244, true)), false, .bin .eql (.tmp 245) (.const (Value.int IntKind.i64 0))⟩,
    ⟨(some 247), none, false, .pick (.tmp 244) (.tmp 246) (.const (Value.bool false))⟩,
    ⟨(some 248), none, false, .mov (.tmp 247)⟩,
    ⟨(some 249), (some (248, true)), false, .mov (.tmp 21)⟩,
    ⟨(some 250), (some (248, true)), false, .bin .eql (.tmp 249) (.const (Value.int IntKind.i64 0))⟩,
    ⟨(some 251), none, false, .pick (.tmp 248) (.tmp 250) (.const (Value.bool false))⟩,
    ⟨(some 252), none, false, .mov (.tmp 251)⟩,
    ⟨(some 253), (some (252, true)), false, .mov (.tmp 23)⟩,
    ⟨(some 254), (some (252, true)), false, .bin .eql (.tmp 253) (.const (Value.int IntKind.i64 0))⟩,
    ⟨(some 255), none, false, .pick (.tmp 252) (.tmp 254) (.const (Value.bool false))⟩,
    ⟨(some 256), none, false, .mov (.tmp 255)⟩,
    ⟨(some 257), (some (256, true)), false, .mov (.tmp 25)⟩,
    ⟨(some 258), (some (256, true)), false, .bin .eql (.tmp 257) (.const (Value.int IntKind.i64 0))⟩,
    ⟨(some 259), none, false, .pick (.tmp 256) (.tmp 258) (.const (Value.bool false))⟩,
    ⟨(some 260), none, false, .mov (.tmp 259)⟩,
    ⟨(some 261), (some (260, true)), false, .mov (.tmp 27)⟩,
    ⟨(some 262), (some (260, true)), false, .bin .eql (.tmp 261) (.const (Value.int IntKind.i64 0))⟩,
    ⟨(some 263), none, false, .pick (.tmp 260) (.tmp 262) (.const (Value.bool false))⟩,
    ⟨(some 264), none, false, .mov (.tmp 263)⟩,
    ⟨(some 265), (some (264, true)), false, .mov (.tmp 16)⟩,
    ⟨(some 266), (some (264, true)), false, .len .sl (.tmp 265)⟩,
    ⟨(some 267), (some (264, true)), false, .mov (.tmp 18)⟩,
    ⟨(some 268), (some (264, true)), false, .len .sl (.tmp 267)⟩,
    ⟨(some 269), (some (264, true)), false, .mov (.tmp 20)⟩,
    ⟨(some 270), (some (264, true)), false, .len .sl (.tmp 269)⟩,
    ⟨(some 271), (some (264, true)), false, .bin .add (.tmp 268) (.tmp 270)⟩,
    ⟨(some 272), (some (264, true)), false, .bin .eql (.tmp 266) (.tmp 271)⟩,
    ⟨(some 273), none, false, .pick (.tmp 264) (.tmp 272) (.const (Value.bool false))⟩,
    ⟨(some 274), none, false, .mov (.tmp 273)⟩,
    ⟨(some 275), (some (274, true)), false, .mov (.tmp 22)⟩,
    ⟨(some 276), (some (274, true)), false, .mov (.tmp 24)⟩,
    ⟨(some 277), (some (274, true)), false, .mov (.tmp 26)⟩,
    ⟨(some 278), (some (274, true)), false, .bin .add (.tmp 276) (.tmp 277)⟩,
    ⟨(some 279), (some (274, true)), false, .bin .eql (.tmp 275) (.tmp 278)⟩,
    ⟨(some 280), none, false, .pick (.tmp 274) (.tmp 279) (.const (Value.bool false))⟩,
    ⟨(some 281), none, false, .mov (.tmp 280)⟩,
    ⟨(some 282), (some (281, true)), false, .call (.func 13) []⟩,
    ⟨(some 283), none, false, .pick (.tmp 281) (.tmp 282) (.const (Value.bool false))⟩,
    ⟨(some 8), none, false, .mov (.tmp 283)⟩]) .ret))))))))))))))))) }
theorem t8 : tabP Try.prog 0 8 = some ic8 := by kernel_rfl
/-- bandplan/bandplanlaw10.TerrainCells -/
def ic9 : IFn := { ntmps := 156, results := [.tmp 6], code := (.seq (.ops false [
    ⟨(some 3), none, false, .box 4 (.tmp 0)⟩,
    ⟨(some 4), none, false, .box 2 (.tmp 1)⟩,
    ⟨(some 6), none, false, .mov (.const (Value.bool false))⟩]) (.seq (.seq (.ops false [
    ⟨(some 17), none, false, .ldn 4 (.tmp 3)⟩,
    ⟨(some 18), none, false, .call (.func 16) [.tmp 17]⟩]) (.cond (.tmp 18) (.seq (.ops false [
    ⟨(some 19), none, false, .call (.func 13) []⟩,
    ⟨(some 6), none, false, .mov (.tmp 19)⟩]) .ret) .skip)) (.seq (.ops false [
    ⟨(some 20), none, false, .ldn 4 (.tmp 3)⟩,
    ⟨(some 21), none, false, .ldn 2 (.tmp 4)⟩,
    ⟨(some 22), none, false, .call (.func 18) [.tmp 20, .tmp 21]⟩,
    ⟨(some 7), none, false, .mov (.tmp 22)⟩]) (.seq (.ops false [
    ⟨(some 24), none, false, .ldn 4 (.tmp 3)⟩,
    ⟨(some 25), none, false, .ldn 2 (.tmp 4)⟩,
    ⟨(some 26), none, false, .call (.func 33) [.tmp 24, .tmp 25]⟩,
    ⟨(some 23), none, false, .mov (.tmp 26)⟩,
    ⟨(some 27), none, false, .ext (.tmp 23) 0⟩,
    ⟨(some 28), none, false, .ext (.tmp 23) 1⟩,
    ⟨(some 8), none, false, .mov (.tmp 27)⟩,
    ⟨(some 9), none, false, .mov (.tmp 28)⟩]) (.seq (.ops false [
    ⟨(some 30), none, false, .ldn 4 (.tmp 3)⟩,
    ⟨(some 31), none, false, .ldn 2 (.tmp 4)⟩,
    ⟨(some 32), none, false, .call (.func 34) [.tmp 30, .tmp 31]⟩,
    ⟨(some 29), none, false, .mov (.tmp 32)⟩,
    ⟨(some 33), none, false, .ext (.tmp 29) 0⟩,
    ⟨(some 34), none, false, .ext (.tmp 29) 1⟩,
    ⟨(some 10), none, false, .mov (.tmp 33)⟩,
    ⟨(some 11), none, false, .mov (.tmp 34)⟩]) (.seq (.ops false [
    ⟨(some 36), none, false, .ldn 4 (.tmp 3)⟩,
    ⟨(some 37), none, false, .ldn 2 (.tmp 4)⟩,
    ⟨(some 38), none, false, .call (.func 35) [.tmp 36, .tmp 37]⟩,
    ⟨(some 35), none, false, .mov (.tmp 38)⟩,
    ⟨(some 39), none, false, .ext (.tmp 35) 0⟩,
    ⟨(some 40), none, false, .ext (.tmp 35) 1⟩,
    ⟨(some 12), none, false, .mov (.tmp 39)⟩,
    ⟨(some 13), none, false, .mov (.tmp 40)⟩]) (.seq (.ops false [
    ⟨(some 42), none, false, .ldn 4 (.tmp 3)⟩,
    ⟨(some 43), none, false, .mov (.tmp 2)⟩,
    ⟨(some 44), none, false, .call (.func 36) [.tmp 42, .tmp 43]⟩,
    ⟨(some 41), none, false, .mov (.tmp 44)⟩,
    ⟨(some 45), none, false, .ext (.tmp 41) 0⟩,
    ⟨(some 46), none, false, .ext (.tmp 41) 1⟩,
    ⟨(some 14), none, false, .new [.int .i64 0, .int .i64 0]⟩,
    ⟨none, none, false, .sto 2 (.tmp 14) (.tmp 45)⟩,
    ⟨(some 15), none, false, .mov (.tmp 46)⟩]) (.seq (.seq (.ops true [
    ⟨(some 47), none, false, .ldn 4 (.tmp 3)⟩,
    ⟨(some 48), none, true, .call (.func 15) [.tmp 47]⟩,
    ⟨(some 49), none, false, .ldn 4 (.tmp 3)⟩,
    ⟨(some 50), none, false, .call (.func 29) [.tmp 49]⟩,
    ⟨(some 51), none, false, .eq .bool true (.tmp 48) (.tmp 50)⟩,
    ⟨(some 52), none, false, .mov (.tmp 51)⟩,
    ⟨(some 53), (some (52, false)), false, .ldn 4 (.tmp 3)⟩,
    ⟨(some 54), (some (52, false)), false, .ldn 2 (.tmp 4)⟩,
    ⟨(some 55), (some (52, false)), false, .call (.func 32) [.tmp 53, .tmp 54]⟩,
    ⟨(some 56), (some (52, false)), false, .mov (.tmp 7)⟩,
    ⟨(some 57), (some (52, false)), false, .eq .bool true (.tmp 55) (.tmp 56)⟩,
    ⟨(some 58), none, false, .pick (.tmp 52) (.const (Value.bool true)) (.tmp 57)⟩]) (.cond (.tmp 58) (.seq (.ops false [
    ⟨(some 6), none, false, .mov (.const (Value.bool false))⟩]) .ret) .skip)) (.seq (.seq (.ops false [
    ⟨(some 59), none, false, .mov (.tmp 7)⟩]) (.cond (.tmp 59) (.seq (.ops false [
    ⟨(some 60), none, false, .ldn 4 (.tmp 3)⟩,
    ⟨(some 61), none, false, .ldn 2 (.tmp 4)⟩,
    ⟨(some 62), none, false, .call (.func 37) [.tmp 60, .tmp 61]⟩,
    ⟨(some 16), none, false, .mov (.tmp 62)⟩]) (.seq (.ops false [
    ⟨(some 63), none, false, .mov (.tmp 8)⟩,
    ⟨(some 64), none, false, .mov (.tmp 16)⟩,
    ⟨(some 65), none, false, .bin .neq (.tmp 63) (.tmp 64)⟩,
    ⟨(some 66), none, false, .mov (.tmp 65)⟩,
    ⟨(some 67), (some (66, false)), false, .mov (.tmp 9)⟩,
    ⟨(some 68), (some (66, false)), false, .bin .neq (.tmp 67) (.const (Value.int IntKind.i64 0))⟩,
    ⟨(some 69), none, false, .pick (.tmp 66) (.const (Value.bool true)) (.tmp 68)⟩,
    ⟨(some 70), none, false, .mov (.tmp 69)⟩,
    ⟨(some 71), (some (70, false)), false, .mov (.tmp 10)⟩,
    ⟨(some 72), (some (70, false)), false, .fad 2 (.tmp 3)⟩,
    ⟨(some 73), (some (70, false)), false, .ld1 (.tmp 72)⟩,
    ⟨(some 74), (some (70, false)), false, .mov (.tmp 16)⟩,
    ⟨(some 75), (some (70, false)), false, .ixs 1 (.tmp 73) (.tmp 74)⟩,
    ⟨(some 76), (some (70, false)), false, .ld1 (.tmp 75)⟩,
    ⟨(some 77), (some (70, false)), false, .bin .neq (.tmp 71) (.tmp 76)⟩,
    ⟨(some 78), none, false, .pick (.tmp 70) (.const (Value.bool true)) (.tmp 77)⟩,
    ⟨(some 79), none, false, .mov (.tmp 78)⟩,
    ⟨(some 80), (some (79, false)), false, .mov (.tmp 11)⟩,
    ⟨(some 81), (some (79, false)), false, .bin .neq (.tmp 80) (.const (Value.int IntKind.i64 0))⟩,
    ⟨(some 82), none, false, .pick (.tmp 79) (.const (Value.bool true)) (.tmp 81)⟩,
    ⟨(some 83), none, false, .mov (.tmp 82)⟩,
    ⟨(some 84), (some (83, false)), false, .mov (.tmp 12)⟩,
    ⟨(some 85), (some (83, false)), false, .fad 3 (.tmp 3)⟩,
    ⟨(some 86), (some (83, false)), false, .ld1 (.tmp 85)⟩,
    ⟨(some 87), (some (83, false)), false, .mov (.tmp 16)⟩,
    ⟨(some 88), (some (83, false)), false, .ixs 1 (.tmp 86) (.tmp 87)⟩,
    ⟨(some 89), (some (83, false)), false, .ld1 (.tmp 88)⟩,
    ⟨(some 90), (some (83, false)), false, .bin .neq (.tmp 84) (.tmp 89)⟩,
    ⟨(some 91), none, false, .pick (.tmp 83) (.const (Value.bool true)) (.tmp 90)⟩,
    ⟨(some 92), none, false, .mov (.tmp 91)⟩,
    ⟨(some 93), (some (92, false)), false, .mov (.tmp 13)⟩,
    ⟨(some 94), (some (92, false)), false, .bin .neq (.tmp 93) (.const (Value.int IntKind.i64 0))⟩,
    ⟨(some 95), none, false, .pick (.tmp 92) (.const (Value.bool true)) (.tmp 94)⟩]) (.cond (.tmp 95) (.seq (.ops false [
    ⟨(some 6), none, false, .mov (.const (Value.bool false))⟩]) .ret) .skip))) (.seq (.ops false [
    ⟨(some 96), none, false, .mov (.tmp 8)⟩,
    ⟨(some 97), none, false, .bin .neq (.tmp 96) (.const (Value.int IntKind.i64 0))⟩,
    ⟨(some 98), none, false, .mov (.tmp 97)⟩,
    ⟨(some 99), (some (98, false)), false, .mov (.tmp 9)⟩,
    ⟨(some 100), (some (98, false)), false, .bin .neq (.tmp 99) (.const (Value.int IntKind.i64 2))⟩,
    ⟨(some 101), none, false, .pick (.tmp 98) (.const (Value.bool true)) (.tmp 100)⟩,
    ⟨(some 102), none, false, .mov (.tmp 101)⟩,
    ⟨(some 103), (some (102, false)), false, .mov (.tmp 10)⟩,
    ⟨(some 104), (some (102, false)), false, .bin .neq (.tmp 103) (.const (Value.int IntKind.i64 0))⟩,
    ⟨(some 105), none, false, .pick (.tmp 102) (.const (Value.bool true)) (.tmp 104)⟩,
    ⟨(some 106), none, false, .mov (.tmp 105)⟩,
    ⟨(some 107), (some (106, false)), false, .mov (.tmp 11)⟩,
    ⟨(some 108), (some (106, false)), false, .bin .neq (.tmp 107) (.const (Value.int IntKind.i64 2))⟩,
    ⟨(some 109), none, false, .pick (.tmp 106) (.const (Value.bool true)) (.tmp 108)⟩,
    ⟨(some 110), none, false, .mov (.tmp 109)⟩,
    ⟨(some 111), (some (110, false)), false, .mov (.tmp 12)⟩,
    ⟨(some 112), (some (110, false)), false, .bin .neq (.tmp 111) (.const (Value.int IntKind.i64 0))⟩,
    ⟨(some 113), none, false, .pick (.tmp 110) (.const (Value.bool true)) (.tmp 112)⟩,
    ⟨(some 114), none, false, .mov (.tmp 113)⟩,
    ⟨(some 115), (some (114, false)), false, .mov (.tmp 13)⟩,
    ⟨(some 116), (some (114, false)), false, .bin .neq (.tmp 115) (.const (Value.int IntKind.i64 2))⟩,
    ⟨(some 117), none, false, .pick (.tmp 114) (.const (Value.bool true)) (.tmp 116)⟩]) (.cond (.tmp 117) (.seq (.ops false [
    ⟨(some 6), none, false, .mov (.const (Value.bool false))⟩]) .ret) .skip)))) (.seq (.seq (.ops false [
    ⟨(some 118), none, false, .ldn 4 (.tmp 3)⟩,
    ⟨(some 119), none, false, .call (.func 29) [.tmp 118]⟩,
    ⟨(some 120), none, false, .una .not (.tmp 119)⟩,
    ⟨(some 121), none, false, .mov (.tmp 120)⟩,
    ⟨(some 122), (some (121, false)), false, .mov (.tmp 2)⟩,
    ⟨(some 123), (some (121, false)), false, .bin .lss (.tmp 122) (.const (Value.int IntKind.i64 0))⟩,
    ⟨(some 124), none, false, .pick (.tmp 121) (.const (Value.bool true)) (.tmp 123)⟩,
    ⟨(some 125), none, false, .mov (.tmp 124)⟩,
    ⟨(some 126), (some (125, false)), false, .mov (.tmp 2)⟩,
    ⟨(some 127), (some (125, false)), false, .fad 0 (.tmp 3)⟩,
    ⟨(some 128), (some (125, false)), false, .ld1 (.tmp 127)⟩,
    ⟨(some 129), (some (125, false)), false, .fad 1 (.tmp 3)⟩,
    ⟨(some 130), (some (125, false)), false, .ld1 (.tmp 129)⟩,
    ⟨(some 131), (some (125, false)), false, .bin .mul (.tmp 128) (.tmp 130)⟩,
    ⟨(some 132), (some (125, false)), false, .bin .geq (.tmp 126) (.tmp 131)⟩,
    ⟨(some 133), none, false, .pick (.tmp 125) (.const (Value.bool true)) (.tmp 132)⟩]) (.cond (.tmp 133) (.seq (.ops false [
    ⟨(some 134), none, false, .ldn 2 (.tmp 14)⟩,
    ⟨(some 135), none, false, .bld [.int .i64 0, .int .i64 0] []⟩,
    ⟨(some 136), none, false, .eq (.flat [.i, .i]) false (.tmp 134) (.tmp 135)⟩,
    ⟨(some 137), none, false, .mov (.tmp 136)⟩,
    ⟨(some 138), (some (137, true)), false, .mov (.tmp 15)⟩,
    ⟨(some 139), (some (137, true)), false, .bin .eql (.tmp 138) (.const (Value.int IntKind.i64 2))⟩,
    ⟨(some 140), none, false, .pick (.tmp 137) (.tmp 139) (.const (Value.bool false))⟩,
    ⟨(some 141), none, false, .mov (.tmp 140)⟩,
    ⟨(some 142), (some (141, true)), false, .call (.func 13) []⟩,
    ⟨(some 143), none, false, .pick (.tmp 141) (.tmp 142) (.const (Value.bool false))⟩,
    ⟨(some 6), none, false, .mov (.tmp 143)⟩]) .ret) .skip)) (.seq (.ops true [
    ⟨(some 144), none, false, .ldn 2 (.tmp 14)⟩,
    ⟨(some 145), none, false, .ldn 4 (.tmp 3)⟩,
    ⟨(some 146), none, false, .mov (.tmp 2)⟩,
    ⟨(some 147), none, true, .call (.func 38) [.tmp 145, .tmp 146]⟩,
    ⟨(some 148), none, false, .eq (.flat [.i, .i]) false (.tmp 144) (.tmp 147)⟩,
    ⟨(some 149), none, false, .mov (.tmp 148)⟩,
    ⟨(some 150), (some (149, true)), false, .mov (.tmp 15)⟩,
    ⟨(some 151), (some (149, true)), false, .bin .eql (.tmp 150) (.const (Value.int IntKind.i64 0))⟩,
    ⟨(some 152), none, false, .pick (.tmp 149) (.tmp 151) (.const (Value.bool false))⟩,
    ⟨(some 153), none, false, .mov (.tmp 152)⟩,
    ⟨(some 154), (some (153, true)), false, .call (.func 13) []⟩,
    ⟨(some 155), none, false, .pick (.tmp 153) (.tmp 154) (.const (Value.bool false))⟩,
    ⟨(some 6), none, false, .mov (.tmp 155)⟩]) .ret))))))))))) }
theorem t9 : tabP Try.prog 0 9 = some ic9 := by kernel_rfl
/-- bandplan/bandplanlaw10.TerrainCopies -/
def ic10 : IFn := { ntmps := 82, results := [.tmp 4], code := (.seq (.ops false [
    ⟨(some 2), none, false, .box 4 (.tmp 0)⟩,
    ⟨(some 3), none, false, .box 4 (.tmp 1)⟩,
    ⟨(some 4), none, false, .mov (.const (Value.bool false))⟩]) (.seq (.seq (.ops false [
    ⟨(some 9), none, false, .ldn 4 (.tmp 2)⟩,
    ⟨(some 10), none, false, .call (.func 16) [.tmp 9]⟩,
    ⟨(some 11), none, false, .mov (.tmp 10)⟩,
    ⟨(some 12), (some (11, false)), false, .ldn 4 (.tmp 3)⟩,
    ⟨(some 13), (some (11, false)), false, .call (.func 16) [.tmp 12]⟩,
    ⟨(some 14), none, false, .pick (.tmp 11) (.const (Value.bool true)) (.tmp 13)⟩]) (.cond (.tmp 14) (.seq (.ops false [
    ⟨(some 15), none, false, .call (.func 13) []⟩,
    ⟨(some 4), none, false, .mov (.tmp 15)⟩]) .ret) .skip)) (.seq (.seq (.ops true [
    ⟨(some 16), none, false, .ldn 4 (.tmp 2)⟩,
    ⟨(some 17), none, false, .ldn 4 (.tmp 3)⟩,
    ⟨(some 18), none, true, .call (.func 39) [.tmp 16, .tmp 17]⟩,
    ⟨(some 19), none, false, .ldn 4 (.tmp 2)⟩,
    ⟨(some 20), none, false, .ldn 4 (.tmp 3)⟩,
    ⟨(some 21), none, false, .call (.func 12) [.tmp 19, .tmp 20]⟩,
    ⟨(some 22), none, false, .eq .bool true (.tmp 18) (.tmp 21)⟩,
    ⟨(some 23), none, false, .mov (.tmp 22)⟩,
    ⟨(some 24), (some (23, false)), false, .ldn 4 (.tmp 2)⟩,
    ⟨(some 25), (some (23, false)), false, .ldn 4 (.tmp 2)⟩,
    ⟨(some 26), (some (23, false)), false, .call (.func 39) [.tmp 24, .tmp 25]⟩,
    ⟨(some 27), (some (23, false)), false, .una .not (.tmp 26)⟩,
    ⟨(some 28), none, false, .pick (.tmp 23) (.const (Value.bool true)) (.tmp 27)⟩]) (.cond (.tmp 28) (.seq (.ops false [
    ⟨(some 4), none, false, .mov (.const (Value.bool false))⟩]) .ret) .skip)) (.seq (.ops true [
    ⟨(some 29), none, false, .fad 0 (.tmp 2)⟩,
    ⟨(some 30), none, false, .ld1 (.tmp 29)⟩,
    ⟨(some 31), none, false, .fad 1 (.tmp 2)⟩,
    ⟨(some 32), none, false, .ld1 (.tmp 31)⟩,
    ⟨(some 33), none, false, .bsl 0 [] []⟩,
    ⟨(some 34), none, false, .fad 2 (.tmp 2)⟩,
    ⟨(some 35), none, false, .ld1 (.tmp 34)⟩,
    ⟨(some 36), none, true, .app 1 8 (.tmp 33) (.tmp 35)⟩,
    ⟨(some 37), none, false, .bsl 0 [] []⟩,
    ⟨(some 38), none, false, .fad 3 (.tmp 2)⟩,
    ⟨(some 39), none, false, .ld1 (.tmp 38)⟩,
    ⟨(some 40), none, true, .app 1 8 (.tmp 37) (.tmp 39)⟩,
    ⟨(some 41), none, false, .bld [.int .i64 0, .int .i64 0, .slice none 0 0, .slice none 0 0] [(0, 1, .tmp 30), (1, 1, .tmp 32), (2, 1, .tmp 36), (3, 1, .tmp 40)]⟩,
    ⟨(some 5), none, false, .new [.int .i64 0, .int .i64 0, .slice none 0 0, .slice none 0 0]⟩,
    ⟨none, none, false, .sto 4 (.tmp 5) (.tmp 41)⟩]) (.seq (.ops false [
    ⟨(some 42), none, false, .ldn 4 (.tmp 2)⟩,
    ⟨(some 43), none, false, .call (.func 40) [.tmp 42]⟩,
    ⟨(some 6), none, false, .new [.int .i64 0, .int .i64 0, .slice none 0 0, .slice none 0 0]⟩,
    ⟨none, none, false, .sto 4 (.tmp 6) (.tmp 43)⟩]) (.seq (.seq (.ops false [
    ⟨(some 44), none, false, .ldn 4 (.tmp 6)⟩,
    ⟨(some 45), none, false, .ldn 4 (.tmp 2)⟩,
    ⟨(some 46), none, false, .call (.func 12) [.tmp 44, .tmp 45]⟩,
    ⟨(some 47), none, false, .una .not (.tmp 46)⟩]) (.cond (.tmp 47) (.seq (.ops false [
    ⟨(some 4), none, false, .mov (.const (Value.bool false))⟩]) .ret) .skip)) (.seq (.seq (.ops false [
    ⟨(some 7), none, false, .mov (.const (Value.int IntKind.i64 0))⟩]) (.block 0 (.loop (.seq (.seq (.ops false [
    ⟨(some 48), none, false, .mov (.tmp 7)⟩,
    ⟨(some 49), none, false, .fad 2 (.tmp 6)⟩,
    ⟨(some 50), none, false, .ld1 (.tmp 49)⟩,
    ⟨(some 51), none, false, .len .sl (.tmp 50)⟩,
    ⟨(some 52), none, false, .bin .lss (.tmp 48) (.tmp 51)⟩]) (.cond (.tmp 52) .skip (.exit 0))) (.seq (.block 1 (.ops false [
    ⟨(some 55), none, false, .fad 2 (.tmp 6)⟩,
    ⟨(some 56), none, false, .ld1 (.tmp 55)⟩,
    ⟨(some 57), none, false, .mov (.tmp 7)⟩,
    ⟨(some 58), none, false, .ixs 1 (.tmp 56) (.tmp 57)⟩,
    ⟨(some 59), none, false, .ld1 (.tmp 58)⟩,
    ⟨(some 60), none, false, .bin .add (.tmp 59) (.const (Value.int IntKind.i64 1))⟩,
    ⟨(some 61), none, false, .ixs 1 (.tmp 56) (.tmp 57)⟩,
    ⟨none, none, false, .sto 1 (.tmp 61) (.tmp 60)⟩])) (.ops false [
    ⟨(some 53), none, false, .mov (.tmp 7)⟩,
    ⟨(some 54), none, false, .bin .add (.tmp 53) (.const (Value.int IntKind.i64 1))⟩,
    ⟨(some 7), none, false, .mov (.tmp 54)⟩])))))) (.seq (.seq (.ops false [
    ⟨(some 8), none, false, .mov (.const (Value.int IntKind.i64 0))⟩]) (.block 2 (.loop (.seq (.seq (.ops false [
    ⟨(some 62), none, false, .mov (.tmp 8)⟩,
    ⟨(some 63), none, false, .fad 3 (.tmp 6)⟩,
    ⟨(some 64), none, false, .ld1 (.tmp 63)⟩,
    ⟨(some 65), none, false, .len .sl (.tmp 64)⟩,
    ⟨(some 66), none, false, .bin .lss (.tmp 62) (.tmp 65)⟩]) (.cond (.tmp 66) .skip (.exit 2))) (.seq (.block 3 (.ops false [
    ⟨(some 69), none, false, .fad 3 (.tmp 6)⟩,
    ⟨(some 70), none, false, .ld1 (.tmp 69)⟩,
    ⟨(some 71), none, false, .mov (.tmp 8)⟩,
    ⟨(some 72), none, false, .ixs 1 (.tmp 70) (.tmp 71)⟩,
    ⟨(some 73), none, false, .ld1 (.tmp 72)⟩,
    ⟨(some 74), none, false, .bin .add (.tmp 73) (.const (Value.int IntKind.i64 1))⟩,
    ⟨(some 75), none, false, .ixs 1 (.tmp 70) (.tmp 71)⟩,
    ⟨none, none, false, .sto 1 (.tmp 75) (.tmp 74)⟩])) (.ops false [
    ⟨(some 67), none, false, .mov (.tmp 8)⟩,
    ⟨(some 68), none, false, .bin .add (.tmp 67) (.const (Value.int IntKind.i64 1))⟩,
    ⟨(some 8), none, false, .mov (.tmp 68)⟩])))))) (.seq (.ops false [
    ⟨(some 76), none, false, .ldn 4 (.tmp 2)⟩,
    ⟨(some 77), none, false, .ldn 4 (.tmp 5)⟩,
    ⟨(some 78), none, false, .call (.func 12) [.tmp 76, .tmp 77]⟩,
    ⟨(some 79), none, false, .mov (.tmp 78)⟩,
    ⟨(some 80), (some (79, true)), false, .call (.func 13) []⟩,
    ⟨(some 81), none, false, .pick (.tmp 79) (.tmp 80) (.const (Value.bool false))⟩,
    ⟨(some 4), none, false, .mov (.tmp 81)⟩]) .ret))))))))) }
theorem t10 : tabP Try.prog 0 10 = some ic10 := by kernel_rfl
/-- bandplan/terrain.Flat -/
def ic11 : IFn := { ntmps := 40, results := [.agg 8 4, .tmp 9], code := (.seq (.ops false [
    ⟨(some 8), none, false, .new [.int .i64 0, .int .i64 0, .slice none 0 0, .slice none 0 0]⟩,
    ⟨(some 9), none, false, .mov (.const (Value.int IntKind.i64 0))⟩]) (.seq (.seq (.ops false [
    ⟨(some 12), none, false, .mov (.tmp 0)⟩,
    ⟨(some 13), none, false, .call (.func 41) [.const (Value.int IntKind.i64 1), .tmp 12, .const (Value.int IntKind.i64 64)]⟩,
    ⟨(some 14), none, false, .una .not (.tmp 13)⟩,
    ⟨(some 15), none, false, .mov (.tmp 14)⟩,
    ⟨(some 16), (some (15, false)), false, .mov (.tmp 1)⟩,
    ⟨(some 17), (some (15, false)), false, .call (.func 41) [.const (Value.int IntKind.i64 1), .tmp 16, .const (Value.int IntKind.i64 64)]⟩,
    ⟨(some 18), (some (15, false)), false, .una .not (.tmp 17)⟩,
    ⟨(some 19), none, false, .pick (.tmp 15) (.const (Value.bool true)) (.tmp 18)⟩]) (.cond (.tmp 19) (.seq (.ops false [
    ⟨(some 20), none, false, .bld [.int .i64 0, .int .i64 0, .slice none 0 0, .slice none 0 0] []⟩,
    ⟨none, none, false, .sto 4 (.tmp 8) (.tmp 20)⟩,
    ⟨(some 9), none, false, .mov (.const (Value.int IntKind.i64 2))⟩]) .ret) .skip)) (.seq (.ops false [
    ⟨(some 21), none, false, .mov (.tmp 0)⟩,
    ⟨(some 22), none, false, .mov (.tmp 1)⟩,
    ⟨(some 23), none, false, .bin .mul (.tmp 21) (.tmp 22)⟩,
    ⟨(some 10), none, false, .mov (.tmp 23)⟩]) (.seq (.ops false [
    ⟨(some 24), none, false, .mov (.tmp 0)⟩,
    ⟨(some 25), none, false, .mov (.tmp 1)⟩,
    ⟨(some 26), none, false, .mov (.tmp 2)⟩,
    ⟨(some 27), none, false, .bsl 1 [.int .i64 0] [(0, 1, .tmp 26)]⟩,
    ⟨(some 28), none, false, .mov (.tmp 10)⟩,
    ⟨(some 29), none, false, .call (.func 42) [.tmp 27, .tmp 28]⟩,
    ⟨(some 30), none, false, .mov (.tmp 3)⟩,
    ⟨(some 31), none, false, .bsl 1 [.int .i64 0] [(0, 1, .tmp 30)]⟩,
    ⟨(some 32), none, false, .mov (.tmp 10)⟩,
    ⟨(some 33), none, false, .call (.func 42) [.tmp 31, .tmp 32]⟩,
    ⟨(some 34), none, false, .bld [.int .i64 0, .int .i64 0, .slice none 0 0, .slice none 0 0] [(0, 1, .tmp 24), (1, 1, .tmp 25), (2, 1, .tmp 29), (3, 1, .tmp 33)]⟩,
    ⟨(some 11), none, false, .new [.int .i64 0, .int .i64 0, .slice none 0 0, .slice none 0 0]⟩,
    ⟨none, none, false, .sto 4 (.tmp 11) (.tmp 34)⟩]) (.seq (.seq (.ops false [
    ⟨(some 35), none, false, .ldn 4 (.tmp 11)⟩,
    ⟨(some 36), none, false, .call (.func 15) [.tmp 35]⟩,
    ⟨(some 37), none, false, .una .not (.tmp 36)⟩]) (.cond (.tmp 37) (.seq (.ops false [
    ⟨(some 38), none, false, .bld [.int .i64 0, .int .i64 0, .slice none 0 0, .slice none 0 0] []⟩,
    ⟨none, none, false, .sto 4 (.tmp 8) (.tmp 38)⟩,
    ⟨(some 9), none, false, .mov (.const (Value.int IntKind.i64 2))⟩]) .ret) .skip)) (.seq (.ops false [
    ⟨(some 39), none, false, .ldn 4 (.tmp 11)⟩,
    ⟨none, none, false, .sto 4 (.tmp 8) (.tmp 39)⟩,
    ⟨(some 9), none, false, .mov (.const (Value.int IntKind.i64 0))⟩]) .ret)))))) }
theorem t11 : tabP Try.prog 0 11 = some ic11 := by kernel_rfl
/-- bandplan/bandplanref10.Equal -/
def ic12 : IFn := { ntmps := 73, results := [.tmp 4], code := (.seq (.ops false [
    ⟨(some 2), none, false, .box 4 (.tmp 0)⟩,
    ⟨(some 3), none, false, .box 4 (.tmp 1)⟩,
    ⟨(some 4), none, false, .mov (.const (Value.bool false))⟩]) (.seq (.seq (.ops false [
    ⟨(some 7), none, false, .fad 0 (.tmp 2)⟩,
    ⟨(some 8), none, false, .ld1 (.tmp 7)⟩,
    ⟨(some 9), none, false, .fad 0 (.tmp 3)⟩,
    ⟨(some 10), none, false, .ld1 (.tmp 9)⟩,
    ⟨(some 11), none, false, .bin .neq (.tmp 8) (.tmp 10)⟩,
    ⟨(some 12), none, false, .mov (.tmp 11)⟩,
    ⟨(some 13), (some (12, false)), false, .fad 1 (.tmp 2)⟩,
    ⟨(some 14), (some (12, false)), false, .ld1 (.tmp 13)⟩,
    ⟨(some 15), (some (12, false)), false, .fad 1 (.tmp 3)⟩,
    ⟨(some 16), (some (12, false)), false, .ld1 (.tmp 15)⟩,
    ⟨(some 17), (some (12, false)), false, .bin .neq (.tmp 14) (.tmp 16)⟩,
    ⟨(some 18), none, false, .pick (.tmp 12) (.const (Value.bool true)) (.tmp 17)⟩,
    ⟨(some 19), none, false, .mov (.tmp 18)⟩,
    ⟨(some 20), (some (19, false)), false, .fad 2 (.tmp 2)⟩,
    ⟨(some 21), (some (19, false)), false, .ld1 (.tmp 20)⟩,
    ⟨(some 22), (some (19, false)), false, .len .sl (.tmp 21)⟩,
    ⟨(some 23), (some (19, false)), false, .fad 2 (.tmp 3)⟩,
    ⟨(some 24), (some (19, false)), false, .ld1 (.tmp 23)⟩,
    ⟨(some 25), (some (19, false)), false, .len .sl (.tmp 24)⟩,
    ⟨(some 26), (some (19, false)), false, .bin .neq (.tmp 22) (.tmp 25)⟩,
    ⟨(some 27), none, false, .pick (.tmp 19) (.const (Value.bool true)) (.tmp 26)⟩,
    ⟨(some 28), none, false, .mov (.tmp 27)⟩,
    ⟨(some 29), (some (28, false)), false, .fad 3 (.tmp 2)⟩,
    ⟨(some 30), (some (28, false)), false, .ld1 (.tmp 29)⟩,
    ⟨(some 31), (some (28, false)), false, .len .sl (.tmp 30)⟩,
    ⟨(some 32), (some (28, false)), false, .fad 3 (.tmp 3)⟩,
    ⟨(some 33), (some (28, false)), false, .ld1 (.tmp 32)⟩,
    ⟨(some 34), (some (28, false)), false, .len .sl (.tmp 33)⟩,
    ⟨(some 35), (some (28, false)), false, .bin .neq (.tmp 31) (.tmp 34)⟩,
    ⟨(some 36), none, false, .pick (.tmp 28) (.const (Value.bool true)) (.tmp 35)⟩]) (.cond (.tmp 36) (.seq (.ops false [
    ⟨(some 4), none, false, .mov (.const (Value.bool false))⟩]) .ret) .skip)) (.seq (.seq (.ops false [
    ⟨(some 5), none, false, .mov (.const (Value.int IntKind.i64 0))⟩]) (.block 0 (.loop (.seq (.seq (.ops false [
    ⟨(some 37), none, false, .mov (.tmp 5)⟩,
    ⟨(some 38), none, false, .fad 2 (.tmp 2)⟩,
    ⟨(some 39), none, false, .ld1 (.tmp 38)⟩,
    ⟨(some 40), none, false, .len .sl (.tmp 39)⟩,
    ⟨(some 41), none, false, .bin .lss (.tmp 37) (.tmp 40)⟩]) (.cond (.tmp 41) .skip (.exit 0))) (.seq (.block 1 (.seq (.ops true [
    ⟨(some 44), none, false, .fad 2 (.tmp 2)⟩,
    ⟨(some 45), none, false, .ld1 (.tmp 44)⟩,
    ⟨(some 46), none, false, .mov (.tmp 5)⟩,
    ⟨(some 47), none, false, .ixs 1 (.tmp 45) (.tmp 46)⟩,
    ⟨(some 48), none, false, .ld1 (.tmp 47)⟩,
    ⟨(some 49), none, false, .fad 2 (.tmp 3)⟩,
    ⟨(some 50), none, false, .ld1 (.tmp 49)⟩,
    ⟨(some 51), none, false, .mov (.tmp 5)⟩,
    ⟨(some 52), none, false, .ixs 1 (.tmp 50) (.tmp 51)⟩,
    ⟨(some 53), none, false, .ld1 (.tmp 52)⟩,
    ⟨(some 54), none, false, .bin .neq (.tmp 48) (.tmp 53)⟩]) (.cond (.tmp 54) (.seq (.ops false [
    ⟨(some 4), none, false, .mov (.const (Value.bool false))⟩]) .ret) .skip))) (.ops false [
    ⟨(some 42), none, false, .mov (.tmp 5)⟩,
    ⟨(some 43), none, false, .bin .add (.tmp 42) (.const (Value.int IntKind.i64 1))⟩,
    ⟨(some 5), none, false, .mov (.tmp 43)⟩])))))) (.seq (.seq (.ops false [
    ⟨(some 6), none, false, .mov (.const (Value.int IntKind.i64 0))⟩]) (.block 2 (.loop (.seq (.seq (.ops false [
    ⟨(some 55), none, false, .mov (.tmp 6)⟩,
    ⟨(some 56), none, false, .fad 3 (.tmp 2)⟩,
    ⟨(some 57), none, false, .ld1 (.tmp 56)⟩,
    ⟨(some 58), none, false, .len .sl (.tmp 57)⟩,
    ⟨(some 59), none, false, .bin .lss (.tmp 55) (.tmp 58)⟩]) (.cond (.tmp 59) .skip (.exit 2))) (.seq (.block 3 (.seq (.ops true [
    ⟨(some 62), none, false, .fad 3 (.tmp 2)⟩,
    ⟨(some 63), none, false, .ld1 (.tmp 62)⟩,
    ⟨(some 64), none, false, .mov (.tmp 6)⟩,
    ⟨(some 65), none, false, .ixs 1 (.tmp 63) (.tmp 64)⟩,
    ⟨(some 66), none, false, .ld1 (.tmp 65)⟩,
    ⟨(some 67), none, false, .fad 3 (.tmp 3)⟩,
    ⟨(some 68), none, false, .ld1 (.tmp 67)⟩,
    ⟨(some 69), none, false, .mov (.tmp 6)⟩,
    ⟨(some 70), none, false, .ixs 1 (.tmp 68) (.tmp 69)⟩,
    ⟨(some 71), none, false, .ld1 (.tmp 70)⟩,
    ⟨(some 72), none, false, .bin .neq (.tmp 66) (.tmp 71)⟩]) (.cond (.tmp 72) (.seq (.ops false [
    ⟨(some 4), none, false, .mov (.const (Value.bool false))⟩]) .ret) .skip))) (.ops false [
    ⟨(some 60), none, false, .mov (.tmp 6)⟩,
    ⟨(some 61), none, false, .bin .add (.tmp 60) (.const (Value.int IntKind.i64 1))⟩,
    ⟨(some 6), none, false, .mov (.tmp 61)⟩])))))) (.seq (.ops false [
    ⟨(some 4), none, false, .mov (.const (Value.bool true))⟩]) .ret))))) }
theorem t12 : tabP Try.prog 0 12 = some ic12 := by kernel_rfl
/-- bandplan/bandplanlaw10.known -/
def ic13 : IFn := { ntmps := 163, results := [.tmp 0], code := (.seq (.ops false [
    ⟨(some 0), none, false, .mov (.const (Value.bool false))⟩]) (.seq (.ops false [
    ⟨(some 24), none, false, .call (.func 11) [.const (Value.int IntKind.i64 4), .const (Value.int IntKind.i64 3), .const (Value.int IntKind.i64 100), .const (Value.int IntKind.i64 7)]⟩,
    ⟨(some 23), none, false, .mov (.tmp 24)⟩,
    ⟨(some 25), none, false, .ext (.tmp 23) 0⟩,
    ⟨(some 26), none, false, .ext (.tmp 23) 1⟩,
    ⟨(some 1), none, false, .new [.int .i64 0, .int .i64 0, .slice none 0 0, .slice none 0 0]⟩,
    ⟨none, none, false, .sto 4 (.tmp 1) (.tmp 25)⟩,
    ⟨(some 2), none, false, .mov (.tmp 26)⟩]) (.seq (.ops false [
    ⟨(some 28), none, false, .bld [.int .i64 0, .int .i64 0] []⟩,
    ⟨(some 29), none, false, .bld [.int .i64 0, .int .i64 0] [(0, 1, .const (Value.int IntKind.i64 4)), (1, 1, .const (Value.int IntKind.i64 2))]⟩,
    ⟨(some 30), none, false, .call (.func 20) [.tmp 28, .tmp 29]⟩,
    ⟨(some 27), none, false, .mov (.tmp 30)⟩,
    ⟨(some 31), none, false, .ext (.tmp 27) 0⟩,
    ⟨(some 32), none, false, .ext (.tmp 27) 1⟩,
    ⟨(some 3), none, false, .mov (.tmp 31)⟩,
    ⟨(some 4), none, false, .mov (.tmp 32)⟩]) (.seq (.ops false [
    ⟨(some 34), none, false, .bld [.int .i64 0, .int .i64 0] []⟩,
    ⟨(some 35), none, false, .bld [.int .i64 0, .int .i64 0] [(0, 1, .const (Value.int IntKind.i64 64))]⟩,
    ⟨(some 36), none, false, .call (.func 20) [.tmp 34, .tmp 35]⟩,
    ⟨(some 33), none, false, .mov (.tmp 36)⟩,
    ⟨(some 37), none, false, .ext (.tmp 33) 0⟩,
    ⟨(some 38), none, false, .ext (.tmp 33) 1⟩,
    ⟨(some 5), none, false, .mov (.tmp 37)⟩,
    ⟨(some 6), none, false, .mov (.tmp 38)⟩]) (.seq (.seq (.ops true [
    ⟨(some 39), none, false, .mov (.tmp 2)⟩,
    ⟨(some 40), none, false, .bin .neq (.tmp 39) (.const (Value.int IntKind.i64 0))⟩,
    ⟨(some 41), none, false, .mov (.tmp 40)⟩,
    ⟨(some 42), (some (41, false)), false, .ldn 4 (.tmp 1)⟩,
    ⟨(some 43), (some (41, false)), true, .call (.func 14) [.const (Value.int IntKind.i64 4), .const (Value.int IntKind.i64 3), .const (Value.int IntKind.i64 100), .const (Value.int IntKind.i64 7)]⟩,
    ⟨(some 44), (some (41, false)), false, .call (.func 12) [.tmp 42, .tmp 43]⟩,
    ⟨(some 45), (some (41, false)), false, .una .not (.tmp 44)⟩,
    ⟨(some 46), none, false, .pick (.tmp 41) (.const (Value.bool true)) (.tmp 45)⟩,
    ⟨(some 47), none, false, .mov (.tmp 46)⟩,
    ⟨(some 48), (some (47, false)), false, .mov (.tmp 4)⟩,
    ⟨(some 49), (some (47, false)), false, .bin .neq (.tmp 48) (.const (Value.int IntKind.i64 0))⟩,
    ⟨(some 50), none, false, .pick (.tmp 47) (.const (Value.bool true)) (.tmp 49)⟩,
    ⟨(some 51), none, false, .mov (.tmp 50)⟩,
    ⟨(some 52), (some (51, false)), false, .mov (.tmp 6)⟩,
    ⟨(some 53), (some (51, false)), false, .bin .neq (.tmp 52) (.const (Value.int IntKind.i64 2))⟩,
    ⟨(some 54), none, false, .pick (.tmp 51) (.const (Value.bool true)) (.tmp 53)⟩,
    ⟨(some 55), none, false, .mov (.tmp 54)⟩,
    ⟨(some 56), (some (55, false)), false, .mov (.tmp 3)⟩,
    ⟨(some 57), (some (55, false)), false, .bld [.int .i64 0, .int .i64 0] [(0, 1, .const (Value.int IntKind.i64 1)), (1, 1, .const (Value.int IntKind.i64 1))]⟩,
    ⟨(some 58), (some (55, false)), false, .bld [.int .i64 0, .int .i64 0] [(0, 1, .const (Value.int IntKind.i64 2)), (1, 1, .const (Value.int IntKind.i64 1))]⟩,
    ⟨(some 59), (some (55, false)), false, .bld [.int .i64 0, .int .i64 0] [(0, 1, .const (Value.int IntKind.i64 3)), (1, 1, .const (Value.int IntKind.i64 2))]⟩,
    ⟨(some 60), (some (55, false)), false, .bsl 3 [.int .i64 0, .int .i64 0, .int .i64 0, .int .i64 0, .int .i64 0, .int .i64 0] [(0, 2, .tmp 57), (2, 2, .tmp 58), (4, 2, .tmp 59)]⟩,
    ⟨(some 61), (some (55, false)), false, .call (.func 21) [.tmp 56, .tmp 60]⟩,
    ⟨(some 62), (some (55, false)), false, .una .not (.tmp 61)⟩,
    ⟨(some 63), none, false, .pick (.tmp 55) (.const (Value.bool true)) (.tmp 62)⟩]) (.cond (.tmp 63) (.seq (.ops false [
    ⟨(some 0), none, false, .mov (.const (Value.bool false))⟩]) .ret) .skip)) (.seq (.ops false [
    ⟨(some 65), none, false, .ldn 4 (.tmp 1)⟩,
    ⟨(some 66), none, false, .bld [.int .i64 0, .int .i64 0] [(0, 1, .const (Value.int IntKind.i64 3)), (1, 1, .const (Value.int IntKind.i64 1))]⟩,
    ⟨(some 67), none, false, .call (.func 33) [.tmp 65, .tmp 66]⟩,
    ⟨(some 64), none, false, .mov (.tmp 67)⟩,
    ⟨(some 68), none, false, .ext (.tmp 64) 0⟩,
    ⟨(some 69), none, false, .ext (.tmp 64) 1⟩,
    ⟨(some 7), none, false, .mov (.tmp 68)⟩,
    ⟨(some 8), none, false, .mov (.tmp 69)⟩]) (.seq (.ops false [
    ⟨(some 71), none, false, .ldn 4 (.tmp 1)⟩,
    ⟨(some 72), none, false, .call (.func 36) [.tmp 71, .const (Value.int IntKind.i64 7)]⟩,
    ⟨(some 70), none, false, .mov (.tmp 72)⟩,
    ⟨(some 73), none, false, .ext (.tmp 70) 0⟩,
    ⟨(some 74), none, false, .ext (.tmp 70) 1⟩,
    ⟨(some 9), none, false, .new [.int .i64 0, .int .i64 0]⟩,
    ⟨none, none, false, .sto 2 (.tmp 9) (.tmp 73)⟩,
    ⟨(some 10), none, false, .mov (.tmp 74)⟩]) (.seq (.ops false [
    ⟨(some 76), none, false, .ldn 4 (.tmp 1)⟩,
    ⟨(some 77), none, false, .call (.func 36) [.tmp 76, .const (Value.int IntKind.i64 12)]⟩,
    ⟨(some 75), none, false, .mov (.tmp 77)⟩,
    ⟨(some 78), none, false, .ext (.tmp 75) 0⟩,
    ⟨(some 79), none, false, .ext (.tmp 75) 1⟩,
    ⟨(some 11), none, false, .new [.int .i64 0, .int .i64 0]⟩,
    ⟨none, none, false, .sto 2 (.tmp 11) (.tmp 78)⟩,
    ⟨(some 12), none, false, .mov (.tmp 79)⟩]) (.seq (.ops false [
    ⟨(some 81), none, false, .ldn 4 (.tmp 1)⟩,
    ⟨(some 82), none, false, .bld [.int .i64 0, .int .i64 0] [(0, 1, .const (Value.int IntKind.i64 2)), (1, 1, .const (Value.int IntKind.i64 1))]⟩,
    ⟨(some 83), none, false, .bld [.int .i64 0, .int .i64 0] [(0, 1, .const (Value.int IntKind.i64 1))]⟩,
    ⟨(some 84), none, false, .call (.func 24) [.tmp 81, .tmp 82, .tmp 83]⟩,
    ⟨(some 80), none, false, .mov (.tmp 84)⟩,
    ⟨(some 85), none, false, .ext (.tmp 80) 0⟩,
    ⟨(some 86), none, false, .ext (.tmp 80) 1⟩,
    ⟨(some 13), none, false, .mov (.tmp 85)⟩,
    ⟨(some 14), none, false, .mov (.tmp 86)⟩]) (.seq (.ops false [
    ⟨(some 88), none, false, .ldn 4 (.tmp 1)⟩,
    ⟨(some 89), none, false, .bsl 3 [.int .i64 0, .int .i64 0, .int .i64 0] [(0, 1, .const (Value.int IntKind.i64 0)), (1, 1, .const (Value.int IntKind.i64 5)), (2, 1, .const (Value.int IntKind.i64 0))]⟩,
    ⟨(some 90), none, false, .call (.func 28) [.tmp 88, .tmp 89]⟩,
    ⟨(some 87), none, false, .mov (.tmp 90)⟩,
    ⟨(some 91), none, false, .ext (.tmp 87) 0⟩,
    ⟨(some 92), none, false, .ext (.tmp 87) 1⟩,
    ⟨(some 15), none, false, .mov (.tmp 91)⟩,
    ⟨(some 16), none, false, .mov (.tmp 92)⟩]) (.seq (.ops false [
    ⟨(some 94), none, false, .ldn 4 (.tmp 1)⟩,
    ⟨(some 95), none, false, .bld [.int .i64 0, .int .i64 0] []⟩,
    ⟨(some 96), none, false, .bld [.int .i64 0, .int .i64 0] []⟩,
    ⟨(some 97), none, false, .call (.func 23) [.tmp 94, .tmp 95, .tmp 96]⟩,
    ⟨(some 93), none, false, .mov (.tmp 97)⟩,
    ⟨(some 98), none, false, .ext (.tmp 93) 0⟩,
    ⟨(some 99), none, false, .ext (.tmp 93) 1⟩,
    ⟨(some 17), none, false, .mov (.tmp 98)⟩,
    ⟨(some 18), none, false, .mov (.tmp 99)⟩]) (.seq (.ops false [
    ⟨(some 101), none, false, .call (.func 11) [.const (Value.int IntKind.i64 65), .const (Value.int IntKind.i64 1), .const (Value.int IntKind.i64 0), .const (Value.int IntKind.i64 0)]⟩,
    ⟨(some 100), none, false, .mov (.tmp 101)⟩,
    ⟨(some 102), none, false, .ext (.tmp 100) 0⟩,
    ⟨(some 103), none, false, .ext (.tmp 100) 1⟩,
    ⟨(some 19), none, false, .new [.int .i64 0, .int .i64 0, .slice none 0 0, .slice none 0 0]⟩,
    ⟨none, none, false, .sto 4 (.tmp 19) (.tmp 102)⟩,
    ⟨(some 20), none, false, .mov (.tmp 103)⟩]) (.seq (.ops false [
    ⟨(some 105), none, false, .ldn 4 (.tmp 1)⟩,
    ⟨(some 106), none, false, .bld [.int .i64 0, .int .i64 0] []⟩,
    ⟨(some 107), none, false, .call (.func 17) [.tmp 105, .tmp 106, .const (Value.int IntKind.i64 9001), .const (Value.int IntKind.i64 0)]⟩,
    ⟨(some 104), none, false, .mov (.tmp 107)⟩,
    ⟨(some 108), none, false, .ext (.tmp 104) 0⟩,
    ⟨(some 109), none, false, .ext (.tmp 104) 1⟩,
    ⟨(some 21), none, false, .new [.int .i64 0, .int .i64 0, .slice none 0 0, .slice none 0 0]⟩,
    ⟨none, none, false, .sto 4 (.tmp 21) (.tmp 108)⟩,
    ⟨(some 22), none, false, .mov (.tmp 109)⟩]) (.seq (.ops false [
    ⟨(some 110), none, false, .mov (.tmp 7)⟩,
    ⟨(some 111), none, false, .bin .eql (.tmp 110) (.const (Value.int IntKind.i64 7))⟩,
    ⟨(some 112), none, false, .mov (.tmp 111)⟩,
    ⟨(some 113), (some (112, true)), false, .mov (.tmp 8)⟩,
    ⟨(some 114), (some (112, true)), false, .bin .eql (.tmp 113) (.const (Value.int IntKind.i64 0))⟩,
    ⟨(some 115), none, false, .pick (.tmp 112) (.tmp 114) (.const (Value.bool false))⟩,
    ⟨(some 116), none, false, .mov (.tmp 115)⟩,
    ⟨(some 117), (some (116, true)), false, .ldn 2 (.tmp 9)⟩,
    ⟨(some 118), (some (116, true)), false, .bld [.int .i64 0, .int .i64 0] [(0, 1, .const (Value.int IntKind.i64 3)), (1, 1, .const (Value.int IntKind.i64 1))]⟩,
    ⟨(some 119), (some (116, true)), false, .eq (.flat [.i, .i]) false (.tmp 117) (.tmp 118)⟩,
    ⟨(some 120), none, false, .pick (.tmp 116) (.tmp 119) (.const (Value.bool false))⟩,
    ⟨(some 121), none, false, .mov (.tmp 120)⟩,
    ⟨(some 122), (some (121, true)), false, .mov (.tmp 10)⟩,
    ⟨(some 123), (some (121, true)), false, .bin .eql (.tmp 122) (.const (Value.int IntKind.i64 0))⟩,
    ⟨(some 124), none, false, .pick (.tmp 121) (.tmp 123) (.const (Value.bool false))⟩,
    ⟨(some 125), none, false, .mov (.tmp 124)⟩,
    ⟨(some 126), (some (125, true)), false, .mov (.tmp 12)⟩,
    ⟨(some 127), (some (125, true)), false, .bin .eql (.tmp 126) (.const (Value.int IntKind.i64 2))⟩,
    ⟨(some 128), none, false, .pick (.tmp 125) (.tmp 127) (.const (Value.bool false))⟩,
    ⟨(some 129), none, false, .mov (.tmp 128)⟩,
    ⟨(some 130), (some (129, true)), false, .mov (.tmp 13)⟩,
    ⟨(some 131), (some (129, true)), false, .bsl 4 [.int .i64 0, .int .i64 0, .int .i64 0, .int .i64 0] [(0, 1, .const (Value.int IntKind.i64 1)), (1, 1, .const (Value.int IntKind.i64 2)), (2, 1, .const (Value.int IntKind.i64 5)), (3, 1, .const (Value.int IntKind.i64 6))]⟩,
    ⟨(some 132), (some (129, true)), false, .call (.func 25) [.tmp 130, .tmp 131]⟩,
    ⟨(some 133), none, false, .pick (.tmp 129) (.tmp 132) (.const (Value.bool false))⟩,
    ⟨(some 134), none, false, .mov (.tmp 133)⟩,
    ⟨(some 135), (some (134, true)), false, .mov (.tmp 14)⟩,
    ⟨(some 136), (some (134, true)), false, .bin .eql (.tmp 135) (.const (Value.int IntKind.i64 0))⟩,
    ⟨(some 137), none, false, .pick (.tmp 134) (.tmp 136) (.const (Value.bool false))⟩,
    ⟨(some 138), none, false, .mov (.tmp 137)⟩,
    ⟨(some 139), (some (138, true)), false, .mov (.tmp 15)⟩,
    ⟨(some 140), (some (138, true)), false, .bin .eql (.tmp 139) (.const (Value.int IntKind.i64 14))⟩,
    ⟨(some 141), none, false, .pick (.tmp 138) (.tmp 140) (.const (Value.bool false))⟩,
    ⟨(some 142), none, false, .mov (.tmp 141)⟩,
    ⟨(some 143), (some (142, true)), false, .mov (.tmp 16)⟩,
    ⟨(some 144), (some (142, true)), false, .bin .eql (.tmp 143) (.const (Value.int IntKind.i64 0))⟩,
    ⟨(some 145), none, false, .pick (.tmp 142) (.tmp 144) (.const (Value.bool false))⟩,
    ⟨(some 146), none, false, .mov (.tmp 145)⟩,
    ⟨(some 147), (some (146, true)), false, .mov (.tmp 17)⟩,
    ⟨(some 148), (some (146, true)), false, .bsl 1 [.int .i64 0] [(0, 1, .const (Value.int IntKind.i64 100))]⟩,
    ⟨(some 149), (some (146, true)), false, .call (.func 25) [.tmp 147, .tmp 148]⟩,
    ⟨(some 150), none, false, .pick (.tmp 146) (.tmp 149) (.const (Value.bool false))⟩,
    ⟨(some 151), none, false, .mov (.tmp 150)⟩,
    ⟨(some 152), (some (151, true)), false, .mov (.tmp 18)⟩,
    ⟨(some 153), (some (151, true)), false, .bin .eql (.tmp 152) (.const (Value.int IntKind.i64 0))⟩,
    ⟨(some 154), none, false, .pick (.tmp 151) (.tmp 153) (.const (Value.bool false))⟩,
    ⟨(some 155), none, false, .mov (.tmp 154)⟩,
    ⟨(some 156), (some (155, true)), false, .mov (.tmp 20)⟩,
    ⟨(some 157), (some (155, true)), false, .bin .eql (.tmp 156) (.const (Value.int IntKind.i64 2))⟩,
    ⟨(some 158), none, false, .pick (.tmp 155) (.tmp 157) (.const (Value.bool false))⟩,
    ⟨(some 159), none, false, .mov (.tmp 158)⟩,
    ⟨(some 160), (some (159, true)), false, .mov (.tmp 22)⟩,
    ⟨(some 161), (some (159, true)), false, .bin .eql (.tmp 160) (.const (Value.int IntKind.i64 2))⟩,
    ⟨(some 162), none, false, .pick (.tmp 159) (.tmp 161) (.const (Value.bool false))⟩,
    ⟨(some 0), none, false, .mov (.tmp 162)⟩]) .ret)))))))))))))) }
theorem t13 : tabP Try.prog 0 13 = some ic13 := by kernel_rfl
/-- bandplan/bandplanref10.Flat -/
def ic14 : IFn := { ntmps := 34, results := [.agg 8 4], code := (.seq (.ops false [
    ⟨(some 8), none, false, .new [.int .i64 0, .int .i64 0, .slice none 0 0, .slice none 0 0]⟩]) (.seq (.ops false [
    ⟨(some 11), none, false, .mov (.tmp 0)⟩,
    ⟨(some 12), none, false, .mov (.tmp 1)⟩,
    ⟨(some 13), none, false, .bld [.int .i64 0, .int .i64 0, .slice none 0 0, .slice none 0 0] [(0, 1, .tmp 11), (1, 1, .tmp 12)]⟩,
    ⟨(some 9), none, false, .new [.int .i64 0, .int .i64 0, .slice none 0 0, .slice none 0 0]⟩,
    ⟨none, none, false, .sto 4 (.tmp 9) (.tmp 13)⟩]) (.seq (.seq (.ops false [
    ⟨(some 10), none, false, .mov (.const (Value.int IntKind.i64 0))⟩]) (.block 0 (.loop (.seq (.seq (.ops false [
    ⟨(some 14), none, false, .mov (.tmp 10)⟩,
    ⟨(some 15), none, false, .mov (.tmp 0)⟩,
    ⟨(some 16), none, false, .mov (.tmp 1)⟩,
    ⟨(some 17), none, false, .bin .mul (.tmp 15) (.tmp 16)⟩,
    ⟨(some 18), none, false, .bin .lss (.tmp 14) (.tmp 17)⟩]) (.cond (.tmp 18) .skip (.exit 0))) (.seq (.block 1 (.seq (.ops false [
    ⟨(some 21), none, false, .fad 2 (.tmp 9)⟩,
    ⟨(some 22), none, false, .ld1 (.tmp 21)⟩,
    ⟨(some 23), none, false, .mov (.tmp 2)⟩,
    ⟨(some 24), none, false, .bsl 1 [.int .i64 0] [(0, 1, .tmp 23)]⟩,
    ⟨(some 25), none, false, .app 1 8 (.tmp 22) (.tmp 24)⟩,
    ⟨(some 26), none, false, .fad 2 (.tmp 9)⟩,
    ⟨none, none, false, .sto 1 (.tmp 26) (.tmp 25)⟩]) (.ops false [
    ⟨(some 27), none, false, .fad 3 (.tmp 9)⟩,
    ⟨(some 28), none, false, .ld1 (.tmp 27)⟩,
    ⟨(some 29), none, false, .mov (.tmp 3)⟩,
    ⟨(some 30), none, false, .bsl 1 [.int .i64 0] [(0, 1, .tmp 29)]⟩,
    ⟨(some 31), none, false, .app 1 8 (.tmp 28) (.tmp 30)⟩,
    ⟨(some 32), none, false, .fad 3 (.tmp 9)⟩,
    ⟨none, none, false, .sto 1 (.tmp 32) (.tmp 31)⟩]))) (.ops false [
    ⟨(some 19), none, false, .mov (.tmp 10)⟩,
    ⟨(some 20), none, false, .bin .add (.tmp 19) (.const (Value.int IntKind.i64 1))⟩,
    ⟨(some 10), none, false, .mov (.tmp 20)⟩])))))) (.seq (.ops false [
    ⟨(some 33), none, false, .ldn 4 (.tmp 9)⟩,
    ⟨none, none, false, .sto 4 (.tmp 8) (.tmp 33)⟩]) .ret)))) }
theorem t14 : tabP Try.prog 0 14 = some ic14 := by kernel_rfl
/-- bandplan/terrain.Valid -/
def ic15 : IFn := { ntmps := 41, results := [.tmp 2], code := (.seq (.ops false [
    ⟨(some 1), none, false, .box 4 (.tmp 0)⟩,
    ⟨(some 2), none, false, .mov (.const (Value.bool false))⟩]) (.seq (.seq (.ops false [
    ⟨(some 4), none, false, .fad 0 (.tmp 1)⟩,
    ⟨(some 5), none, false, .ld1 (.tmp 4)⟩,
    ⟨(some 6), none, false, .call (.func 41) [.const (Value.int IntKind.i64 1), .tmp 5, .const (Value.int IntKind.i64 64)]⟩,
    ⟨(some 7), none, false, .una .not (.tmp 6)⟩,
    ⟨(some 8), none, false, .mov (.tmp 7)⟩,
    ⟨(some 9), (some (8, false)), false, .fad 1 (.tmp 1)⟩,
    ⟨(some 10), (some (8, false)), false, .ld1 (.tmp 9)⟩,
    ⟨(some 11), (some (8, false)), false, .call (.func 41) [.const (Value.int IntKind.i64 1), .tmp 10, .const (Value.int IntKind.i64 64)]⟩,
    ⟨(some 12), (some (8, false)), false, .una .not (.tmp 11)⟩,
    ⟨(some 13), none, false, .pick (.tmp 8) (.const (Value.bool true)) (.tmp 12)⟩]) (.cond (.tmp 13) (.seq (.ops false [
    ⟨(some 2), none, false, .mov (.const (Value.bool false))⟩]) .ret) .skip)) (.seq (.ops false [
    ⟨(some 14), none, false, .fad 0 (.tmp 1)⟩,
    ⟨(some 15), none, false, .ld1 (.tmp 14)⟩,
    ⟨(some 16), none, false, .fad 1 (.tmp 1)⟩,
    ⟨(some 17), none, false, .ld1 (.tmp 16)⟩,
    ⟨(some 18), none, false, .bin .mul (.tmp 15) (.tmp 17)⟩,
    ⟨(some 3), none, false, .mov (.tmp 18)⟩]) (.seq (.ops false [
    ⟨(some 19), none, false, .fad 2 (.tmp 1)⟩,
    ⟨(some 20), none, false, .ld1 (.tmp 19)⟩,
    ⟨(some 21), none, false, .len .sl (.tmp 20)⟩,
    ⟨(some 22), none, false, .mov (.tmp 3)⟩,
    ⟨(some 23), none, false, .bin .eql (.tmp 21) (.tmp 22)⟩,
    ⟨(some 24), none, false, .mov (.tmp 23)⟩,
    ⟨(some 25), (some (24, true)), false, .fad 3 (.tmp 1)⟩,
    ⟨(some 26), (some (24, true)), false, .ld1 (.tmp 25)⟩,
    ⟨(some 27), (some (24, true)), false, .len .sl (.tmp 26)⟩,
    ⟨(some 28), (some (24, true)), false, .mov (.tmp 3)⟩,
    ⟨(some 29), (some (24, true)), false, .bin .eql (.tmp 27) (.tmp 28)⟩,
    ⟨(some 30), none, false, .pick (.tmp 24) (.tmp 29) (.const (Value.bool false))⟩,
    ⟨(some 31), none, false, .mov (.tmp 30)⟩,
    ⟨(some 32), (some (31, true)), false, .fad 2 (.tmp 1)⟩,
    ⟨(some 33), (some (31, true)), false, .ld1 (.tmp 32)⟩,
    ⟨(some 34), (some (31, true)), false, .call (.func 43) [.const (Value.int IntKind.i64 0), .tmp 33, .const (Value.int IntKind.i64 9000)]⟩,
    ⟨(some 35), none, false, .pick (.tmp 31) (.tmp 34) (.const (Value.bool false))⟩,
    ⟨(some 36), none, false, .mov (.tmp 35)⟩,
    ⟨(some 37), (some (36, true)), false, .fad 3 (.tmp 1)⟩,
    ⟨(some 38), (some (36, true)), false, .ld1 (.tmp 37)⟩,
    ⟨(some 39), (some (36, true)), false, .call (.func 43) [.const (Value.int IntKind.i64 0), .tmp 38, .const (Value.int IntKind.i64 1000000)]⟩,
    ⟨(some 40), none, false, .pick (.tmp 36) (.tmp 39) (.const (Value.bool false))⟩,
    ⟨(some 2), none, false, .mov (.tmp 40)⟩]) .ret)))) }
theorem t15 : tabP Try.prog 0 15 = some ic15 := by kernel_rfl
/-- bandplan/bandplanlaw10.big -/
def ic16 : IFn := { ntmps := 13, results := [.tmp 2], code := (.seq (.ops false [
    ⟨(some 1), none, false, .box 4 (.tmp 0)⟩,
    ⟨(some 2), none, false, .mov (.const (Value.bool false))⟩]) (.seq (.ops false [
    ⟨(some 3), none, false, .fad 2 (.tmp 1)⟩,
    ⟨(some 4), none, false, .ld1 (.tmp 3)⟩,
    ⟨(some 5), none, false, .len .sl (.tmp 4)⟩,
    ⟨(some 6), none, false, .bin .gtr (.tmp 5) (.const (Value.int IntKind.i64 300))⟩,
    ⟨(some 7), none, false, .mov (.tmp 6)⟩,
    ⟨(some 8), (some (7, false)), false, .fad 3 (.tmp 1)⟩,
    ⟨(some 9), (some (7, false)), false, .ld1 (.tmp 8)⟩,
    ⟨(some 10), (some (7, false)), false, .len .sl (.tmp 9)⟩,
    ⟨(some 11), (some (7, false)), false, .bin .gtr (.tmp 10) (.const (Value.int IntKind.i64 300))⟩,
    ⟨(some 12), none, false, .pick (.tmp 7) (.const (Value.bool true)) (.tmp 11)⟩,
    ⟨(some 2), none, false, .mov (.tmp 12)⟩]) .ret)) }
theorem t16 : tabP Try.prog 0 16 = some ic16 := by kernel_rfl
/-- bandplan/terrain.Set -/
def ic17 : IFn := { ntmps := 43, results := [.agg 8 4, .tmp 9], code := (.seq (.ops false [
    ⟨(some 4), none, false, .box 4 (.tmp 0)⟩,
    ⟨(some 5), none, false, .box 2 (.tmp 1)⟩,
    ⟨(some 8), none, false, .new [.int .i64 0, .int .i64 0, .slice none 0 0, .slice none 0 0]⟩,
    ⟨(some 9), none, false, .mov (.const (Value.int IntKind.i64 0))⟩]) (.seq (.seq (.ops false [
    ⟨(some 11), none, false, .ldn 4 (.tmp 4)⟩,
    ⟨(some 12), none, false, .ldn 2 (.tmp 5)⟩,
    ⟨(some 13), none, false, .call (.func 32) [.tmp 11, .tmp 12]⟩,
    ⟨(some 14), none, false, .una .not (.tmp 13)⟩,
    ⟨(some 15), none, false, .mov (.tmp 14)⟩,
    ⟨(some 16), (some (15, false)), false, .mov (.tmp 2)⟩,
    ⟨(some 17), (some (15, false)), false, .call (.func 41) [.const (Value.int IntKind.i64 0), .tmp 16, .const (Value.int IntKind.i64 9000)]⟩,
    ⟨(some 18), (some (15, false)), false, .una .not (.tmp 17)⟩,
    ⟨(some 19), none, false, .pick (.tmp 15) (.const (Value.bool true)) (.tmp 18)⟩,
    ⟨(some 20), none, false, .mov (.tmp 19)⟩,
    ⟨(some 21), (some (20, false)), false, .mov (.tmp 3)⟩,
    ⟨(some 22), (some (20, false)), false, .call (.func 41) [.const (Value.int IntKind.i64 0), .tmp 21, .const (Value.int IntKind.i64 1000000)]⟩,
    ⟨(some 23), (some (20, false)), false, .una .not (.tmp 22)⟩,
    ⟨(some 24), none, false, .pick (.tmp 20) (.const (Value.bool true)) (.tmp 23)⟩]) (.cond (.tmp 24) (.seq (.ops false [
    ⟨(some 25), none, false, .bld [.int .i64 0, .int .i64 0, .slice none 0 0, .slice none 0 0] []⟩,
    ⟨none, none, false, .sto 4 (.tmp 8) (.tmp 25)⟩,
    ⟨(some 9), none, false, .mov (.const (Value.int IntKind.i64 2))⟩]) .ret) .skip)) (.seq (.ops false [
    ⟨(some 26), none, false, .ldn 4 (.tmp 4)⟩,
    ⟨(some 27), none, false, .call (.func 40) [.tmp 26]⟩,
    ⟨(some 10), none, false, .new [.int .i64 0, .int .i64 0, .slice none 0 0, .slice none 0 0]⟩,
    ⟨none, none, false, .sto 4 (.tmp 10) (.tmp 27)⟩]) (.seq (.ops true [
    ⟨(some 28), none, false, .fad 2 (.tmp 10)⟩,
    ⟨(some 29), none, false, .ld1 (.tmp 28)⟩,
    ⟨(some 30), none, false, .ldn 4 (.tmp 4)⟩,
    ⟨(some 31), none, false, .ldn 2 (.tmp 5)⟩,
    ⟨(some 32), none, true, .call (.func 44) [.tmp 30, .tmp 31]⟩,
    ⟨(some 33), none, false, .fad 3 (.tmp 10)⟩,
    ⟨(some 34), none, false, .ld1 (.tmp 33)⟩,
    ⟨(some 35), none, false, .ldn 4 (.tmp 4)⟩,
    ⟨(some 36), none, false, .ldn 2 (.tmp 5)⟩,
    ⟨(some 37), none, true, .call (.func 44) [.tmp 35, .tmp 36]⟩,
    ⟨(some 38), none, false, .mov (.tmp 2)⟩,
    ⟨(some 39), none, false, .mov (.tmp 3)⟩,
    ⟨(some 40), none, false, .ixs 1 (.tmp 29) (.tmp 32)⟩,
    ⟨none, none, false, .stk 1 (.tmp 40) (.tmp 38) [(1, .tmp 33)]⟩,
    ⟨(some 41), none, false, .ixs 1 (.tmp 34) (.tmp 37)⟩,
    ⟨none, none, false, .sto 1 (.tmp 41) (.tmp 39)⟩]) (.seq (.ops false [
    ⟨(some 42), none, false, .ldn 4 (.tmp 10)⟩,
    ⟨none, none, false, .sto 4 (.tmp 8) (.tmp 42)⟩,
    ⟨(some 9), none, false, .mov (.const (Value.int IntKind.i64 0))⟩]) .ret))))) }
theorem t17 : tabP Try.prog 0 17 = some ic17 := by kernel_rfl
/-- bandplan/bandplanref10.Has -/
def ic18 : IFn := { ntmps := 31, results := [.tmp 4], code := (.seq (.ops false [
    ⟨(some 2), none, false, .box 4 (.tmp 0)⟩,
    ⟨(some 3), none, false, .box 2 (.tmp 1)⟩,
    ⟨(some 4), none, false, .mov (.const (Value.bool false))⟩]) (.seq (.ops false [
    ⟨(some 5), none, false, .ldn 4 (.tmp 2)⟩,
    ⟨(some 6), none, false, .call (.func 29) [.tmp 5]⟩,
    ⟨(some 7), none, false, .mov (.tmp 6)⟩,
    ⟨(some 8), (some (7, true)), false, .fad 0 (.tmp 3)⟩,
    ⟨(some 9), (some (7, true)), false, .ld1 (.tmp 8)⟩,
    ⟨(some 10), (some (7, true)), false, .bin .geq (.tmp 9) (.const (Value.int IntKind.i64 0))⟩,
    ⟨(some 11), none, false, .pick (.tmp 7) (.tmp 10) (.const (Value.bool false))⟩,
    ⟨(some 12), none, false, .mov (.tmp 11)⟩,
    ⟨(some 13), (some (12, true)), false, .fad 0 (.tmp 3)⟩,
    ⟨(some 14), (some (12, true)), false, .ld1 (.tmp 13)⟩,
    ⟨(some 15), (some (12, true)), false, .fad 0 (.tmp 2)⟩,
    ⟨(some 16), (some (12, true)), false, .ld1 (.tmp 15)⟩,
    ⟨(some 17), (some (12, true)), false, .bin .lss (.tmp 14) (.tmp 16)⟩,
    ⟨(some 18), none, false, .pick (.tmp 12) (.tmp 17) (.const (Value.bool false))⟩,
    ⟨(some 19), none, false, .mov (.tmp 18)⟩,
    ⟨(some 20), (some (19, true)), false, .fad 1 (.tmp 3)⟩,
    ⟨(some 21), (some (19, true)), false, .ld1 (.tmp 20)⟩,
    ⟨(some 22), (some (19, true)), false, .bin .geq (.tmp 21) (.const (Value.int IntKind.i64 0))⟩,
    ⟨(some 23), none, false, .pick (.tmp 19) (.tmp 22) (.const (Value.bool false))⟩,
    ⟨(some 24), none, false, .mov (.tmp 23)⟩,
    ⟨(some 25), (some (24, true)), false, .fad 1 (.tmp 3)⟩,
    ⟨(some 26), (some (24, true)), false, .ld1 (.tmp 25)⟩,
    ⟨(some 27), (some (24, true)), false, .fad 1 (.tmp 2)⟩,
    ⟨(some 28), (some (24, true)), false, .ld1 (.tmp 27)⟩,
    ⟨(some 29), (some (24, true)), false, .bin .lss (.tmp 26) (.tmp 28)⟩,
    ⟨(some 30), none, false, .pick (.tmp 24) (.tmp 29) (.const (Value.bool false))⟩,
    ⟨(some 4), none, false, .mov (.tmp 30)⟩]) .ret)) }
theorem t18 : tabP Try.prog 0 18 = some ic18 := by kernel_rfl
/-- bandplan/bandplanref10.Set -/
def ic19 : IFn := { ntmps := 38, results := [.agg 8 4], code := (.seq (.ops false [
    ⟨(some 4), none, false, .box 4 (.tmp 0)⟩,
    ⟨(some 5), none, false, .box 2 (.tmp 1)⟩,
    ⟨(some 8), none, false, .new [.int .i64 0, .int .i64 0, .slice none 0 0, .slice none 0 0]⟩]) (.seq (.ops true [
    ⟨(some 10), none, false, .fad 0 (.tmp 4)⟩,
    ⟨(some 11), none, false, .ld1 (.tmp 10)⟩,
    ⟨(some 12), none, false, .fad 1 (.tmp 4)⟩,
    ⟨(some 13), none, false, .ld1 (.tmp 12)⟩,
    ⟨(some 14), none, false, .bsl 0 [] []⟩,
    ⟨(some 15), none, false, .fad 2 (.tmp 4)⟩,
    ⟨(some 16), none, false, .ld1 (.tmp 15)⟩,
    ⟨(some 17), none, true, .app 1 8 (.tmp 14) (.tmp 16)⟩,
    ⟨(some 18), none, false, .bsl 0 [] []⟩,
    ⟨(some 19), none, false, .fad 3 (.tmp 4)⟩,
    ⟨(some 20), none, false, .ld1 (.tmp 19)⟩,
    ⟨(some 21), none, true, .app 1 8 (.tmp 18) (.tmp 20)⟩,
    ⟨(some 22), none, false, .bld [.int .i64 0, .int .i64 0, .slice none 0 0, .slice none 0 0] [(0, 1, .tmp 11), (1, 1, .tmp 13), (2, 1, .tmp 17), (3, 1, .tmp 21)]⟩,
    ⟨(some 9), none, false, .new [.int .i64 0, .int .i64 0, .slice none 0 0, .slice none 0 0]⟩,
    ⟨none, none, false, .sto 4 (.tmp 9) (.tmp 22)⟩]) (.seq (.ops true [
    ⟨(some 23), none, false, .fad 2 (.tmp 9)⟩,
    ⟨(some 24), none, false, .ld1 (.tmp 23)⟩,
    ⟨(some 25), none, false, .ldn 4 (.tmp 4)⟩,
    ⟨(some 26), none, false, .ldn 2 (.tmp 5)⟩,
    ⟨(some 27), none, true, .call (.func 37) [.tmp 25, .tmp 26]⟩,
    ⟨(some 28), none, false, .mov (.tmp 2)⟩,
    ⟨(some 29), none, false, .ixs 1 (.tmp 24) (.tmp 27)⟩,
    ⟨none, none, false, .sto 1 (.tmp 29) (.tmp 28)⟩]) (.seq (.ops true [
    ⟨(some 30), none, false, .fad 3 (.tmp 9)⟩,
    ⟨(some 31), none, false, .ld1 (.tmp 30)⟩,
    ⟨(some 32), none, false, .ldn 4 (.tmp 4)⟩,
    ⟨(some 33), none, false, .ldn 2 (.tmp 5)⟩,
    ⟨(some 34), none, true, .call (.func 37) [.tmp 32, .tmp 33]⟩,
    ⟨(some 35), none, false, .mov (.tmp 3)⟩,
    ⟨(some 36), none, false, .ixs 1 (.tmp 31) (.tmp 34)⟩,
    ⟨none, none, false, .sto 1 (.tmp 36) (.tmp 35)⟩]) (.seq (.ops false [
    ⟨(some 37), none, false, .ldn 4 (.tmp 9)⟩,
    ⟨none, none, false, .sto 4 (.tmp 8) (.tmp 37)⟩]) .ret))))) }
theorem t19 : tabP Try.prog 0 19 = some ic19 := by kernel_rfl
/-- bandplan/terrain.Line -/
def ic20 : IFn := { ntmps := 59, results := [.tmp 4, .tmp 5], code := (.seq (.ops false [
    ⟨(some 2), none, false, .box 2 (.tmp 0)⟩,
    ⟨(some 3), none, false, .box 2 (.tmp 1)⟩,
    ⟨(some 4), none, false, .mov (.const (Value.slice none 0 0))⟩,
    ⟨(some 5), none, false, .mov (.const (Value.int IntKind.i64 0))⟩]) (.seq (.seq (.ops false [
    ⟨(some 11), none, false, .fad 0 (.tmp 2)⟩,
    ⟨(some 12), none, false, .ld1 (.tmp 11)⟩,
    ⟨(some 13), none, false, .fad 1 (.tmp 2)⟩,
    ⟨(some 14), none, false, .ld1 (.tmp 13)⟩,
    ⟨(some 15), none, false, .fad 0 (.tmp 3)⟩,
    ⟨(some 16), none, false, .ld1 (.tmp 15)⟩,
    ⟨(some 17), none, false, .fad 1 (.tmp 3)⟩,
    ⟨(some 18), none, false, .ld1 (.tmp 17)⟩,
    ⟨(some 19), none, false, .bsl 4 [.int .i64 0, .int .i64 0, .int .i64 0, .int .i64 0] [(0, 1, .tmp 12), (1, 1, .tmp 14), (2, 1, .tmp 16), (3, 1, .tmp 18)]⟩,
    ⟨(some 20), none, false, .call (.func 43) [.const (Value.int IntKind.i64 0), .tmp 19, .const (Value.int IntKind.i64 63)]⟩,
    ⟨(some 21), none, false, .una .not (.tmp 20)⟩]) (.cond (.tmp 21) (.seq (.ops false [
    ⟨(some 4), none, false, .mov (.const (Value.slice none 0 0))⟩,
    ⟨(some 5), none, false, .mov (.const (Value.int IntKind.i64 2))⟩]) .ret) .skip)) (.seq (.ops true [
    ⟨(some 22), none, false, .fad 0 (.tmp 3)⟩,
    ⟨(some 23), none, false, .ld1 (.tmp 22)⟩,
    ⟨(some 24), none, false, .fad 0 (.tmp 2)⟩,
    ⟨(some 25), none, false, .ld1 (.tmp 24)⟩,
    ⟨(some 26), none, false, .bin .sub (.tmp 23) (.tmp 25)⟩,
    ⟨(some 27), none, false, .fad 1 (.tmp 3)⟩,
    ⟨(some 28), none, false, .ld1 (.tmp 27)⟩,
    ⟨(some 29), none, false, .fad 1 (.tmp 2)⟩,
    ⟨(some 30), none, false, .ld1 (.tmp 29)⟩,
    ⟨(some 31), none, false, .bin .sub (.tmp 28) (.tmp 30)⟩,
    ⟨(some 6), none, false, .mov (.tmp 26)⟩,
    ⟨(some 7), none, false, .mov (.tmp 31)⟩]) (.seq (.ops false [
    ⟨(some 32), none, false, .mov (.tmp 6)⟩,
    ⟨(some 33), none, false, .call (.func 45) [.tmp 32]⟩,
    ⟨(some 34), none, false, .mov (.tmp 7)⟩,
    ⟨(some 35), none, false, .call (.func 45) [.tmp 34]⟩,
    ⟨(some 36), none, false, .mnx true [.tmp 33, .tmp 35]⟩,
    ⟨(some 8), none, false, .mov (.tmp 36)⟩]) (.seq (.ops false [
    ⟨(some 9), none, false, .mov (.const (Value.slice none 0 0))⟩]) (.seq (.seq (.ops false [
    ⟨(some 10), none, false, .mov (.const (Value.int IntKind.i64 1))⟩]) (.block 0 (.loop (.seq (.seq (.ops false [
    ⟨(some 37), none, false, .mov (.tmp 10)⟩,
    ⟨(some 38), none, false, .mov (.tmp 8)⟩,
    ⟨(some 39), none, false, .bin .lss (.tmp 37) (.tmp 38)⟩]) (.cond (.tmp 39) .skip (.exit 0))) (.seq (.block 1 (.ops true [
    ⟨(some 42), none, false, .mov (.tmp 9)⟩,
    ⟨(some 43), none, false, .fad 0 (.tmp 2)⟩,
    ⟨(some 44), none, false, .ld1 (.tmp 43)⟩,
    ⟨(some 45), none, false, .mov (.tmp 10)⟩,
    ⟨(some 46), none, false, .mov (.tmp 6)⟩,
    ⟨(some 47), none, false, .mov (.tmp 8)⟩,
    ⟨(some 48), none, true, .call (.func 46) [.tmp 44, .tmp 45, .tmp 46, .tmp 47]⟩,
    ⟨(some 49), none, false, .fad 1 (.tmp 2)⟩,
    ⟨(some 50), none, false, .ld1 (.tmp 49)⟩,
    ⟨(some 51), none, false, .mov (.tmp 10)⟩,
    ⟨(some 52), none, false, .mov (.tmp 7)⟩,
    ⟨(some 53), none, false, .mov (.tmp 8)⟩,
    ⟨(some 54), none, false, .call (.func 46) [.tmp 50, .tmp 51, .tmp 52, .tmp 53]⟩,
    ⟨(some 55), none, false, .bld [.int .i64 0, .int .i64 0] [(0, 1, .tmp 48), (1, 1, .tmp 54)]⟩,
    ⟨(some 56), none, false, .bsl 1 [.int .i64 0, .int .i64 0] [(0, 2, .tmp 55)]⟩,
    ⟨(some 57), none, false, .app 2 16 (.tmp 42) (.tmp 56)⟩,
    ⟨(some 9), none, false, .mov (.tmp 57)⟩])) (.ops false [
    ⟨(some 40), none, false, .mov (.tmp 10)⟩,
    ⟨(some 41), none, false, .bin .add (.tmp 40) (.const (Value.int IntKind.i64 1))⟩,
    ⟨(some 10), none, false, .mov (.tmp 41)⟩])))))) (.seq (.ops false [
    ⟨(some 58), none, false, .mov (.tmp 9)⟩,
    ⟨(some 4), none, false, .mov (.tmp 58)⟩,
    ⟨(some 5), none, false, .mov (.const (Value.int IntKind.i64 0))⟩]) .ret))))))) }
theorem t20 : tabP Try.prog 0 20 = some ic20 := by kernel_rfl
/-- bandplan/bandplanlaw10.same -/
def ic21 : IFn := { ntmps := 26, results := [.tmp 4], code := (.seq (.ops false [
    ⟨(some 4), none, false, .mov (.const (Value.bool false))⟩]) (.seq (.seq (.ops false [
    ⟨(some 6), none, false, .mov (.tmp 0)⟩,
    ⟨(some 7), none, false, .len .sl (.tmp 6)⟩,
    ⟨(some 8), none, false, .mov (.tmp 1)⟩,
    ⟨(some 9), none, false, .len .sl (.tmp 8)⟩,
    ⟨(some 10), none, false, .bin .neq (.tmp 7) (.tmp 9)⟩]) (.cond (.tmp 10) (.seq (.ops false [
    ⟨(some 4), none, false, .mov (.const (Value.bool false))⟩]) .ret) .skip)) (.seq (.seq (.ops false [
    ⟨(some 5), none, false, .mov (.const (Value.int IntKind.i64 0))⟩]) (.block 0 (.loop (.seq (.seq (.ops false [
    ⟨(some 11), none, false, .mov (.tmp 5)⟩,
    ⟨(some 12), none, false, .mov (.tmp 0)⟩,
    ⟨(some 13), none, false, .len .sl (.tmp 12)⟩,
    ⟨(some 14), none, false, .bin .lss (.tmp 11) (.tmp 13)⟩]) (.cond (.tmp 14) .skip (.exit 0))) (.seq (.block 1 (.seq (.ops true [
    ⟨(some 17), none, false, .mov (.tmp 0)⟩,
    ⟨(some 18), none, false, .mov (.tmp 5)⟩,
    ⟨(some 19), none, false, .ixs 2 (.tmp 17) (.tmp 18)⟩,
    ⟨(some 20), none, false, .ldn 2 (.tmp 19)⟩,
    ⟨(some 21), none, false, .mov (.tmp 1)⟩,
    ⟨(some 22), none, false, .mov (.tmp 5)⟩,
    ⟨(some 23), none, false, .ixs 2 (.tmp 21) (.tmp 22)⟩,
    ⟨(some 24), none, false, .ldn 2 (.tmp 23)⟩,
    ⟨(some 25), none, false, .eq (.flat [.i, .i]) true (.tmp 20) (.tmp 24)⟩]) (.cond (.tmp 25) (.seq (.ops false [
    ⟨(some 4), none, false, .mov (.const (Value.bool false))⟩]) .ret) .skip))) (.ops false [
    ⟨(some 15), none, false, .mov (.tmp 5)⟩,
    ⟨(some 16), none, false, .bin .add (.tmp 15) (.const (Value.int IntKind.i64 1))⟩,
    ⟨(some 5), none, false, .mov (.tmp 16)⟩])))))) (.seq (.ops false [
    ⟨(some 4), none, false, .mov (.const (Value.bool true))⟩]) .ret)))) }
theorem t21 : tabP Try.prog 0 21 = some ic21 := by kernel_rfl
/-- bandplan/bandplanref10.Line -/
def ic22 : IFn := { ntmps := 53, results := [.tmp 4], code := (.seq (.ops false [
    ⟨(some 2), none, false, .box 2 (.tmp 0)⟩,
    ⟨(some 3), none, false, .box 2 (.tmp 1)⟩,
    ⟨(some 4), none, false, .mov (.const (Value.slice none 0 0))⟩]) (.seq (.ops false [
    ⟨(some 5), none, false, .mov (.const (Value.slice none 0 0))⟩]) (.seq (.ops false [
    ⟨(some 8), none, false, .ldn 2 (.tmp 2)⟩,
    ⟨(some 9), none, false, .ldn 2 (.tmp 3)⟩,
    ⟨(some 10), none, false, .call (.func 47) [.tmp 8, .tmp 9]⟩,
    ⟨(some 6), none, false, .mov (.tmp 10)⟩]) (.seq (.seq (.ops false [
    ⟨(some 7), none, false, .mov (.const (Value.int IntKind.i64 1))⟩]) (.block 0 (.loop (.seq (.seq (.ops false [
    ⟨(some 11), none, false, .mov (.tmp 7)⟩,
    ⟨(some 12), none, false, .mov (.tmp 6)⟩,
    ⟨(some 13), none, false, .bin .lss (.tmp 11) (.tmp 12)⟩]) (.cond (.tmp 13) .skip (.exit 0))) (.seq (.block 1 (.ops true [
    ⟨(some 16), none, false, .mov (.tmp 5)⟩,
    ⟨(some 17), none, false, .fad 0 (.tmp 2)⟩,
    ⟨(some 18), none, false, .ld1 (.tmp 17)⟩,
    ⟨(some 19), none, false, .mov (.tmp 7)⟩,
    ⟨(some 20), none, false, .bin .mul (.const (Value.int IntKind.i64 2)) (.tmp 19)⟩,
    ⟨(some 21), none, false, .fad 0 (.tmp 3)⟩,
    ⟨(some 22), none, false, .ld1 (.tmp 21)⟩,
    ⟨(some 23), none, false, .fad 0 (.tmp 2)⟩,
    ⟨(some 24), none, false, .ld1 (.tmp 23)⟩,
    ⟨(some 25), none, false, .bin .sub (.tmp 22) (.tmp 24)⟩,
    ⟨(some 26), none, false, .bin .mul (.tmp 20) (.tmp 25)⟩,
    ⟨(some 27), none, false, .mov (.tmp 6)⟩,
    ⟨(some 28), none, false, .bin .add (.tmp 26) (.tmp 27)⟩,
    ⟨(some 29), none, false, .mov (.tmp 6)⟩,
    ⟨(some 30), none, false, .bin .mul (.const (Value.int IntKind.i64 2)) (.tmp 29)⟩,
    ⟨(some 31), none, true, .call (.func 48) [.tmp 28, .tmp 30]⟩,
    ⟨(some 32), none, false, .bin .add (.tmp 18) (.tmp 31)⟩,
    ⟨(some 33), none, false, .fad 1 (.tmp 2)⟩,
    ⟨(some 34), none, false, .ld1 (.tmp 33)⟩,
    ⟨(some 35), none, false, .mov (.tmp 7)⟩,
    ⟨(some 36), none, false, .bin .mul (.const (Value.int IntKind.i64 2)) (.tmp 35)⟩,
    ⟨(some 37), none, false, .fad 1 (.tmp 3)⟩,
    ⟨(some 38), none, false, .ld1 (.tmp 37)⟩,
    ⟨(some 39), none, false, .fad 1 (.tmp 2)⟩,
    ⟨(some 40), none, false, .ld1 (.tmp 39)⟩,
    ⟨(some 41), none, false, .bin .sub (.tmp 38) (.tmp 40)⟩,
    ⟨(some 42), none, false, .bin .mul (.tmp 36) (.tmp 41)⟩,
    ⟨(some 43), none, false, .mov (.tmp 6)⟩,
    ⟨(some 44), none, false, .bin .add (.tmp 42) (.tmp 43)⟩,
    ⟨(some 45), none, false, .mov (.tmp 6)⟩,
    ⟨(some 46), none, false, .bin .mul (.const (Value.int IntKind.i64 2)) (.tmp 45)⟩,
    ⟨(some 47), none, true, .call (.func 48) [.tmp 44, .tmp 46]⟩,
    ⟨(some 48), none, false, .bin .add (.tmp 34) (.tmp 47)⟩,
    ⟨(some 49), none, false, .bld [.int .i64 0, .int .i64 0] [(0, 1, .tmp 32), (1, 1, .tmp 48)]⟩,
    ⟨(some 50), none, false, .bsl 1 [.int .i64 0, .int .i64 0] [(0, 2, .tmp 49)]⟩,
    ⟨(some 51), none, false, .app 2 16 (.tmp 16) (.tmp 50)⟩,
    ⟨(some 5), none, false, .mov (.tmp 51)⟩])) (.ops false [
    ⟨(some 14), none, false, .mov (.tmp 7)⟩,
    ⟨(some 15), none, false, .bin .add (.tmp 14) (.const (Value.int IntKind.i64 1))⟩,
    ⟨(some 7), none, false, .mov (.tmp 15)⟩])))))) (.seq (.ops false [
    ⟨(some 52), none, false, .mov (.tmp 5)⟩,
    ⟨(some 4), none, false, .mov (.tmp 52)⟩]) .ret))))) }
theorem t22 : tabP Try.prog 0 22 = some ic22 := by kernel_rfl
/-- bandplan/terrain.Profile -/
def ic23 : IFn := { ntmps := 62, results := [.tmp 6, .tmp 7], code := (.seq (.ops false [
    ⟨(some 3), none, false, .box 4 (.tmp 0)⟩,
    ⟨(some 4), none, false, .box 2 (.tmp 1)⟩,
    ⟨(some 5), none, false, .box 2 (.tmp 2)⟩,
    ⟨(some 6), none, false, .mov (.const (Value.slice none 0 0))⟩,
    ⟨(some 7), none, false, .mov (.const (Value.int IntKind.i64 0))⟩]) (.seq (.seq (.ops false [
    ⟨(some 14), none, false, .ldn 4 (.tmp 3)⟩,
    ⟨(some 15), none, false, .ldn 2 (.tmp 4)⟩,
    ⟨(some 16), none, false, .call (.func 32) [.tmp 14, .tmp 15]⟩,
    ⟨(some 17), none, false, .una .not (.tmp 16)⟩,
    ⟨(some 18), none, false, .mov (.tmp 17)⟩,
    ⟨(some 19), (some (18, false)), false, .ldn 4 (.tmp 3)⟩,
    ⟨(some 20), (some (18, false)), false, .ldn 2 (.tmp 5)⟩,
    ⟨(some 21), (some (18, false)), false, .call (.func 32) [.tmp 19, .tmp 20]⟩,
    ⟨(some 22), (some (18, false)), false, .una .not (.tmp 21)⟩,
    ⟨(some 23), none, false, .pick (.tmp 18) (.const (Value.bool true)) (.tmp 22)⟩]) (.cond (.tmp 23) (.seq (.ops false [
    ⟨(some 6), none, false, .mov (.const (Value.slice none 0 0))⟩,
    ⟨(some 7), none, false, .mov (.const (Value.int IntKind.i64 2))⟩]) .ret) .skip)) (.seq (.ops false [
    ⟨(some 25), none, false, .ldn 2 (.tmp 4)⟩,
    ⟨(some 26), none, false, .ldn 2 (.tmp 5)⟩,
    ⟨(some 27), none, false, .call (.func 20) [.tmp 25, .tmp 26]⟩,
    ⟨(some 24), none, false, .mov (.tmp 27)⟩,
    ⟨(some 28), none, false, .ext (.tmp 24) 0⟩,
    ⟨(some 29), none, false, .ext (.tmp 24) 1⟩,
    ⟨(some 8), none, false, .mov (.tmp 28)⟩,
    ⟨(some 9), none, false, .mov (.tmp 29)⟩]) (.seq (.ops false [
    ⟨(some 30), none, false, .ldn 2 (.tmp 4)⟩,
    ⟨(some 31), none, false, .bsl 1 [.int .i64 0, .int .i64 0] [(0, 2, .tmp 30)]⟩,
    ⟨(some 32), none, false, .mov (.tmp 8)⟩,
    ⟨(some 33), none, false, .app 2 16 (.tmp 31) (.tmp 32)⟩,
    ⟨(some 10), none, false, .mov (.tmp 33)⟩]) (.seq (.seq (.ops false [
    ⟨(some 34), none, false, .ldn 2 (.tmp 4)⟩,
    ⟨(some 35), none, false, .ldn 2 (.tmp 5)⟩,
    ⟨(some 36), none, false, .eq (.flat [.i, .i]) true (.tmp 34) (.tmp 35)⟩]) (.cond (.tmp 36) (.ops false [
    ⟨(some 37), none, false, .mov (.tmp 10)⟩,
    ⟨(some 38), none, false, .ldn 2 (.tmp 5)⟩,
    ⟨(some 39), none, false, .bsl 1 [.int .i64 0, .int .i64 0] [(0, 2, .tmp 38)]⟩,
    ⟨(some 40), none, false, .app 2 16 (.tmp 37) (.tmp 39)⟩,
    ⟨(some 10), none, false, .mov (.tmp 40)⟩]) .skip)) (.seq (.ops false [
    ⟨(some 41), none, false, .mov (.tmp 10)⟩,
    ⟨(some 42), none, false, .len .sl (.tmp 41)⟩,
    ⟨(some 43), none, false, .mks 1 8 [.int .i64 0] (.const (Value.int IntKind.i64 0)) (.tmp 42)⟩,
    ⟨(some 11), none, false, .mov (.tmp 43)⟩]) (.seq (.seq (.ops false [
    ⟨(some 44), none, false, .mov (.tmp 10)⟩,
    ⟨(some 45), none, false, .len .sl (.tmp 44)⟩,
    ⟨(some 46), none, false, .mov (.const (Value.int IntKind.i64 0))⟩]) (.block 0 (.loop (.seq (.ops false [
    ⟨(some 47), none, false, .bin .lss (.tmp 46) (.tmp 45)⟩]) (.seq (.cond (.tmp 47) .skip (.exit 0)) (.seq (.block 1 (.seq (.ops false [
    ⟨(some 48), none, false, .ixs 2 (.tmp 44) (.tmp 46)⟩,
    ⟨(some 49), none, false, .ldn 2 (.tmp 48)⟩,
    ⟨(some 13), none, false, .new [.int .i64 0, .int .i64 0]⟩,
    ⟨none, none, false, .sto 2 (.tmp 13) (.tmp 49)⟩]) (.ops true [
    ⟨(some 50), none, false, .mov (.tmp 11)⟩,
    ⟨(some 51), none, false, .fad 2 (.tmp 3)⟩,
    ⟨(some 52), none, false, .ld1 (.tmp 51)⟩,
    ⟨(some 53), none, false, .ldn 4 (.tmp 3)⟩,
    ⟨(some 54), none, false, .ldn 2 (.tmp 13)⟩,
    ⟨(some 55), none, true, .call (.func 44) [.tmp 53, .tmp 54]⟩,
    ⟨(some 56), none, false, .ixs 1 (.tmp 52) (.tmp 55)⟩,
    ⟨(some 57), none, false, .ld1 (.tmp 56)⟩,
    ⟨(some 58), none, false, .bsl 1 [.int .i64 0] [(0, 1, .tmp 57)]⟩,
    ⟨(some 59), none, false, .app 1 8 (.tmp 50) (.tmp 58)⟩,
    ⟨(some 11), none, false, .mov (.tmp 59)⟩]))) (.ops false [
    ⟨(some 60), none, false, .bin .add (.tmp 46) (.const (Value.int IntKind.i64 1))⟩,
    ⟨(some 46), none, false, .mov (.tmp 60)⟩]))))))) (.seq (.ops false [
    ⟨(some 61), none, false, .mov (.tmp 11)⟩,
    ⟨(some 6), none, false, .mov (.tmp 61)⟩,
    ⟨(some 7), none, false, .mov (.const (Value.int IntKind.i64 0))⟩]) .ret)))))))) }
theorem t23 : tabP Try.prog 0 23 = some ic23 := by kernel_rfl
/-- bandplan/terrain.Rect -/
def ic24 : IFn := { ntmps := 58, results := [.tmp 6, .tmp 7], code := (.seq (.ops false [
    ⟨(some 3), none, false, .box 4 (.tmp 0)⟩,
    ⟨(some 4), none, false, .box 2 (.tmp 1)⟩,
    ⟨(some 5), none, false, .box 2 (.tmp 2)⟩,
    ⟨(some 6), none, false, .mov (.const (Value.slice none 0 0))⟩,
    ⟨(some 7), none, false, .mov (.const (Value.int IntKind.i64 0))⟩]) (.seq (.seq (.ops false [
    ⟨(some 11), none, false, .ldn 4 (.tmp 3)⟩,
    ⟨(some 12), none, false, .ldn 2 (.tmp 4)⟩,
    ⟨(some 13), none, false, .call (.func 32) [.tmp 11, .tmp 12]⟩,
    ⟨(some 14), none, false, .una .not (.tmp 13)⟩,
    ⟨(some 15), none, false, .mov (.tmp 14)⟩,
    ⟨(some 16), (some (15, false)), false, .ldn 4 (.tmp 3)⟩,
    ⟨(some 17), (some (15, false)), false, .ldn 2 (.tmp 5)⟩,
    ⟨(some 18), (some (15, false)), false, .call (.func 32) [.tmp 16, .tmp 17]⟩,
    ⟨(some 19), (some (15, false)), false, .una .not (.tmp 18)⟩,
    ⟨(some 20), none, false, .pick (.tmp 15) (.const (Value.bool true)) (.tmp 19)⟩]) (.cond (.tmp 20) (.seq (.ops false [
    ⟨(some 6), none, false, .mov (.const (Value.slice none 0 0))⟩,
    ⟨(some 7), none, false, .mov (.const (Value.int IntKind.i64 2))⟩]) .ret) .skip)) (.seq (.ops false [
    ⟨(some 8), none, false, .mov (.const (Value.slice none 0 0))⟩]) (.seq (.seq (.ops false [
    ⟨(some 21), none, false, .fad 1 (.tmp 4)⟩,
    ⟨(some 22), none, false, .ld1 (.tmp 21)⟩,
    ⟨(some 23), none, false, .fad 1 (.tmp 5)⟩,
    ⟨(some 24), none, false, .ld1 (.tmp 23)⟩,
    ⟨(some 25), none, false, .mnx false [.tmp 22, .tmp 24]⟩,
    ⟨(some 9), none, false, .mov (.tmp 25)⟩]) (.block 0 (.loop (.seq (.seq (.ops false [
    ⟨(some 26), none, false, .mov (.tmp 9)⟩,
    ⟨(some 27), none, false, .fad 1 (.tmp 4)⟩,
    ⟨(some 28), none, false, .ld1 (.tmp 27)⟩,
    ⟨(some 29), none, false, .fad 1 (.tmp 5)⟩,
    ⟨(some 30), none, false, .ld1 (.tmp 29)⟩,
    ⟨(some 31), none, false, .mnx true [.tmp 28, .tmp 30]⟩,
    ⟨(some 32), none, false, .bin .leq (.tmp 26) (.tmp 31)⟩]) (.cond (.tmp 32) .skip (.exit 0))) (.seq (.block 1 (.seq (.ops false [
    ⟨(some 35), none, false, .fad 0 (.tmp 4)⟩,
    ⟨(some 36), none, false, .ld1 (.tmp 35)⟩,
    ⟨(some 37), none, false, .fad 0 (.tmp 5)⟩,
    ⟨(some 38), none, false, .ld1 (.tmp 37)⟩,
    ⟨(some 39), none, false, .mnx false [.tmp 36, .tmp 38]⟩,
    ⟨(some 10), none, false, .mov (.tmp 39)⟩]) (.block 2 (.loop (.seq (.seq (.ops false [
    ⟨(some 40), none, false, .mov (.tmp 10)⟩,
    ⟨(some 41), none, false, .fad 0 (.tmp 4)⟩,
    ⟨(some 42), none, false, .ld1 (.tmp 41)⟩,
    ⟨(some 43), none, false, .fad 0 (.tmp 5)⟩,
    ⟨(some 44), none, false, .ld1 (.tmp 43)⟩,
    ⟨(some 45), none, false, .mnx true [.tmp 42, .tmp 44]⟩,
    ⟨(some 46), none, false, .bin .leq (.tmp 40) (.tmp 45)⟩]) (.cond (.tmp 46) .skip (.exit 2))) (.seq (.block 3 (.ops false [
    ⟨(some 49), none, false, .mov (.tmp 8)⟩,
    ⟨(some 50), none, false, .ldn 4 (.tmp 3)⟩,
    ⟨(some 51), none, false, .mov (.tmp 10)⟩,
    ⟨(some 52), none, false, .mov (.tmp 9)⟩,
    ⟨(some 53), none, false, .bld [.int .i64 0, .int .i64 0] [(0, 1, .tmp 51), (1, 1, .tmp 52)]⟩,
    ⟨(some 54), none, false, .call (.func 44) [.tmp 50, .tmp 53]⟩,
    ⟨(some 55), none, false, .bsl 1 [.int .i64 0] [(0, 1, .tmp 54)]⟩,
    ⟨(some 56), none, false, .app 1 8 (.tmp 49) (.tmp 55)⟩,
    ⟨(some 8), none, false, .mov (.tmp 56)⟩])) (.ops false [
    ⟨(some 47), none, false, .mov (.tmp 10)⟩,
    ⟨(some 48), none, false, .bin .add (.tmp 47) (.const (Value.int IntKind.i64 1))⟩,
    ⟨(some 10), none, false, .mov (.tmp 48)⟩]))))))) (.ops false [
    ⟨(some 33), none, false, .mov (.tmp 9)⟩,
    ⟨(some 34), none, false, .bin .add (.tmp 33) (.const (Value.int IntKind.i64 1))⟩,
    ⟨(some 9), none, false, .mov (.tmp 34)⟩])))))) (.seq (.ops false [
    ⟨(some 57), none, false, .mov (.tmp 8)⟩,
    ⟨(some 6), none, false, .mov (.tmp 57)⟩,
    ⟨(some 7), none, false, .mov (.const (Value.int IntKind.i64 0))⟩]) .ret))))) }
theorem t24 : tabP Try.prog 0 24 = some ic24 := by kernel_rfl
/-- bandplan/bandplanlaw10.equal -/
def ic25 : IFn := { ntmps := 26, results := [.tmp 4], code := (.seq (.ops false [
    ⟨(some 4), none, false, .mov (.const (Value.bool false))⟩]) (.seq (.seq (.ops false [
    ⟨(some 6), none, false, .mov (.tmp 0)⟩,
    ⟨(some 7), none, false, .len .sl (.tmp 6)⟩,
    ⟨(some 8), none, false, .mov (.tmp 1)⟩,
    ⟨(some 9), none, false, .len .sl (.tmp 8)⟩,
    ⟨(some 10), none, false, .bin .neq (.tmp 7) (.tmp 9)⟩]) (.cond (.tmp 10) (.seq (.ops false [
    ⟨(some 4), none, false, .mov (.const (Value.bool false))⟩]) .ret) .skip)) (.seq (.seq (.ops false [
    ⟨(some 5), none, false, .mov (.const (Value.int IntKind.i64 0))⟩]) (.block 0 (.loop (.seq (.seq (.ops false [
    ⟨(some 11), none, false, .mov (.tmp 5)⟩,
    ⟨(some 12), none, false, .mov (.tmp 0)⟩,
    ⟨(some 13), none, false, .len .sl (.tmp 12)⟩,
    ⟨(some 14), none, false, .bin .lss (.tmp 11) (.tmp 13)⟩]) (.cond (.tmp 14) .skip (.exit 0))) (.seq (.block 1 (.seq (.ops true [
    ⟨(some 17), none, false, .mov (.tmp 0)⟩,
    ⟨(some 18), none, false, .mov (.tmp 5)⟩,
    ⟨(some 19), none, false, .ixs 1 (.tmp 17) (.tmp 18)⟩,
    ⟨(some 20), none, false, .ld1 (.tmp 19)⟩,
    ⟨(some 21), none, false, .mov (.tmp 1)⟩,
    ⟨(some 22), none, false, .mov (.tmp 5)⟩,
    ⟨(some 23), none, false, .ixs 1 (.tmp 21) (.tmp 22)⟩,
    ⟨(some 24), none, false, .ld1 (.tmp 23)⟩,
    ⟨(some 25), none, false, .bin .neq (.tmp 20) (.tmp 24)⟩]) (.cond (.tmp 25) (.seq (.ops false [
    ⟨(some 4), none, false, .mov (.const (Value.bool false))⟩]) .ret) .skip))) (.ops false [
    ⟨(some 15), none, false, .mov (.tmp 5)⟩,
    ⟨(some 16), none, false, .bin .add (.tmp 15) (.const (Value.int IntKind.i64 1))⟩,
    ⟨(some 5), none, false, .mov (.tmp 16)⟩])))))) (.seq (.ops false [
    ⟨(some 4), none, false, .mov (.const (Value.bool true))⟩]) .ret)))) }
theorem t25 : tabP Try.prog 0 25 = some ic25 := by kernel_rfl
/-- bandplan/bandplanref10.Profile -/
def ic26 : IFn := { ntmps := 55, results := [.tmp 6], code := (.seq (.ops false [
    ⟨(some 3), none, false, .box 4 (.tmp 0)⟩,
    ⟨(some 4), none, false, .box 2 (.tmp 1)⟩,
    ⟨(some 5), none, false, .box 2 (.tmp 2)⟩,
    ⟨(some 6), none, false, .mov (.const (Value.slice none 0 0))⟩]) (.seq (.ops true [
    ⟨(some 10), none, false, .fad 2 (.tmp 3)⟩,
    ⟨(some 11), none, false, .ld1 (.tmp 10)⟩,
    ⟨(some 12), none, false, .ldn 4 (.tmp 3)⟩,
    ⟨(some 13), none, false, .ldn 2 (.tmp 4)⟩,
    ⟨(some 14), none, true, .call (.func 37) [.tmp 12, .tmp 13]⟩,
    ⟨(some 15), none, false, .ixs 1 (.tmp 11) (.tmp 14)⟩,
    ⟨(some 16), none, false, .ld1 (.tmp 15)⟩,
    ⟨(some 17), none, false, .bsl 1 [.int .i64 0] [(0, 1, .tmp 16)]⟩,
    ⟨(some 7), none, false, .mov (.tmp 17)⟩]) (.seq (.ops false [
    ⟨(some 18), none, false, .ldn 2 (.tmp 4)⟩,
    ⟨(some 19), none, false, .ldn 2 (.tmp 5)⟩,
    ⟨(some 20), none, false, .call (.func 22) [.tmp 18, .tmp 19]⟩,
    ⟨(some 8), none, false, .mov (.tmp 20)⟩]) (.seq (.seq (.ops false [
    ⟨(some 9), none, false, .mov (.const (Value.int IntKind.i64 0))⟩]) (.block 0 (.loop (.seq (.seq (.ops false [
    ⟨(some 21), none, false, .mov (.tmp 9)⟩,
    ⟨(some 22), none, false, .mov (.tmp 8)⟩,
    ⟨(some 23), none, false, .len .sl (.tmp 22)⟩,
    ⟨(some 24), none, false, .bin .lss (.tmp 21) (.tmp 23)⟩]) (.cond (.tmp 24) .skip (.exit 0))) (.seq (.block 1 (.ops true [
    ⟨(some 27), none, false, .mov (.tmp 7)⟩,
    ⟨(some 28), none, false, .fad 2 (.tmp 3)⟩,
    ⟨(some 29), none, false, .ld1 (.tmp 28)⟩,
    ⟨(some 30), none, false, .ldn 4 (.tmp 3)⟩,
    ⟨(some 31), none, false, .mov (.tmp 8)⟩,
    ⟨(some 32), none, false, .mov (.tmp 9)⟩,
    ⟨(some 33), none, false, .ixs 2 (.tmp 31) (.tmp 32)⟩,
    ⟨(some 34), none, false, .ldn 2 (.tmp 33)⟩,
    ⟨(some 35), none, true, .call (.func 37) [.tmp 30, .tmp 34]⟩,
    ⟨(some 36), none, false, .ixs 1 (.tmp 29) (.tmp 35)⟩,
    ⟨(some 37), none, false, .ld1 (.tmp 36)⟩,
    ⟨(some 38), none, false, .bsl 1 [.int .i64 0] [(0, 1, .tmp 37)]⟩,
    ⟨(some 39), none, false, .app 1 8 (.tmp 27) (.tmp 38)⟩,
    ⟨(some 7), none, false, .mov (.tmp 39)⟩])) (.ops false [
    ⟨(some 25), none, false, .mov (.tmp 9)⟩,
    ⟨(some 26), none, false, .bin .add (.tmp 25) (.const (Value.int IntKind.i64 1))⟩,
    ⟨(some 9), none, false, .mov (.tmp 26)⟩])))))) (.seq (.seq (.ops false [
    ⟨(some 40), none, false, .ldn 2 (.tmp 4)⟩,
    ⟨(some 41), none, false, .ldn 2 (.tmp 5)⟩,
    ⟨(some 42), none, false, .call (.func 47) [.tmp 40, .tmp 41]⟩,
    ⟨(some 43), none, false, .bin .gtr (.tmp 42) (.const (Value.int IntKind.i64 0))⟩]) (.cond (.tmp 43) (.ops true [
    ⟨(some 44), none, false, .mov (.tmp 7)⟩,
    ⟨(some 45), none, false, .fad 2 (.tmp 3)⟩,
    ⟨(some 46), none, false, .ld1 (.tmp 45)⟩,
    ⟨(some 47), none, false, .ldn 4 (.tmp 3)⟩,
    ⟨(some 48), none, false, .ldn 2 (.tmp 5)⟩,
    ⟨(some 49), none, true, .call (.func 37) [.tmp 47, .tmp 48]⟩,
    ⟨(some 50), none, false, .ixs 1 (.tmp 46) (.tmp 49)⟩,
    ⟨(some 51), none, false, .ld1 (.tmp 50)⟩,
    ⟨(some 52), none, false, .bsl 1 [.int .i64 0] [(0, 1, .tmp 51)]⟩,
    ⟨(some 53), none, false, .app 1 8 (.tmp 44) (.tmp 52)⟩,
    ⟨(some 7), none, false, .mov (.tmp 53)⟩]) .skip)) (.seq (.ops false [
    ⟨(some 54), none, false, .mov (.tmp 7)⟩,
    ⟨(some 6), none, false, .mov (.tmp 54)⟩]) .ret)))))) }
theorem t26 : tabP Try.prog 0 26 = some ic26 := by kernel_rfl
/-- bandplan/bandplanref10.Rect -/
def ic27 : IFn := { ntmps := 43, results := [.tmp 6], code := (.seq (.ops false [
    ⟨(some 3), none, false, .box 4 (.tmp 0)⟩,
    ⟨(some 4), none, false, .box 2 (.tmp 1)⟩,
    ⟨(some 5), none, false, .box 2 (.tmp 2)⟩,
    ⟨(some 6), none, false, .mov (.const (Value.slice none 0 0))⟩]) (.seq (.ops false [
    ⟨(some 7), none, false, .mov (.const (Value.slice none 0 0))⟩]) (.seq (.seq (.ops false [
    ⟨(some 8), none, false, .mov (.const (Value.int IntKind.i64 0))⟩]) (.block 0 (.loop (.seq (.seq (.ops false [
    ⟨(some 10), none, false, .mov (.tmp 8)⟩,
    ⟨(some 11), none, false, .fad 0 (.tmp 3)⟩,
    ⟨(some 12), none, false, .ld1 (.tmp 11)⟩,
    ⟨(some 13), none, false, .fad 1 (.tmp 3)⟩,
    ⟨(some 14), none, false, .ld1 (.tmp 13)⟩,
    ⟨(some 15), none, false, .bin .mul (.tmp 12) (.tmp 14)⟩,
    ⟨(some 16), none, false, .bin .lss (.tmp 10) (.tmp 15)⟩]) (.cond (.tmp 16) .skip (.exit 0))) (.seq (.block 1 (.seq (.ops false [
    ⟨(some 19), none, false, .ldn 4 (.tmp 3)⟩,
    ⟨(some 20), none, false, .mov (.tmp 8)⟩,
    ⟨(some 21), none, false, .call (.func 38) [.tmp 19, .tmp 20]⟩,
    ⟨(some 9), none, false, .new [.int .i64 0, .int .i64 0]⟩,
    ⟨none, none, false, .sto 2 (.tmp 9) (.tmp 21)⟩]) (.seq (.ops false [
    ⟨(some 22), none, false, .fad 0 (.tmp 9)⟩,
    ⟨(some 23), none, false, .ld1 (.tmp 22)⟩,
    ⟨(some 24), none, false, .fad 0 (.tmp 4)⟩,
    ⟨(some 25), none, false, .ld1 (.tmp 24)⟩,
    ⟨(some 26), none, false, .fad 0 (.tmp 5)⟩,
    ⟨(some 27), none, false, .ld1 (.tmp 26)⟩,
    ⟨(some 28), none, false, .call (.func 49) [.tmp 23, .tmp 25, .tmp 27]⟩,
    ⟨(some 29), none, false, .mov (.tmp 28)⟩,
    ⟨(some 30), (some (29, true)), false, .fad 1 (.tmp 9)⟩,
    ⟨(some 31), (some (29, true)), false, .ld1 (.tmp 30)⟩,
    ⟨(some 32), (some (29, true)), false, .fad 1 (.tmp 4)⟩,
    ⟨(some 33), (some (29, true)), false, .ld1 (.tmp 32)⟩,
    ⟨(some 34), (some (29, true)), false, .fad 1 (.tmp 5)⟩,
    ⟨(some 35), (some (29, true)), false, .ld1 (.tmp 34)⟩,
    ⟨(some 36), (some (29, true)), false, .call (.func 49) [.tmp 31, .tmp 33, .tmp 35]⟩,
    ⟨(some 37), none, false, .pick (.tmp 29) (.tmp 36) (.const (Value.bool false))⟩]) (.cond (.tmp 37) (.ops false [
    ⟨(some 38), none, false, .mov (.tmp 7)⟩,
    ⟨(some 39), none, false, .mov (.tmp 8)⟩,
    ⟨(some 40), none, false, .bsl 1 [.int .i64 0] [(0, 1, .tmp 39)]⟩,
    ⟨(some 41), none, false, .app 1 8 (.tmp 38) (.tmp 40)⟩,
    ⟨(some 7), none, false, .mov (.tmp 41)⟩]) .skip)))) (.ops false [
    ⟨(some 17), none, false, .mov (.tmp 8)⟩,
    ⟨(some 18), none, false, .bin .add (.tmp 17) (.const (Value.int IntKind.i64 1))⟩,
    ⟨(some 8), none, false, .mov (.tmp 18)⟩])))))) (.seq (.ops false [
    ⟨(some 42), none, false, .mov (.tmp 7)⟩,
    ⟨(some 6), none, false, .mov (.tmp 42)⟩]) .ret)))) }
theorem t27 : tabP Try.prog 0 27 = some ic27 := by kernel_rfl
/-- bandplan/terrain.Total -/
def ic28 : IFn := { ntmps := 46, results := [.tmp 4, .tmp 5], code := (.seq (.ops false [
    ⟨(some 2), none, false, .box 4 (.tmp 0)⟩,
    ⟨(some 4), none, false, .mov (.const (Value.int IntKind.i64 0))⟩,
    ⟨(some 5), none, false, .mov (.const (Value.int IntKind.i64 0))⟩]) (.seq (.seq (.ops false [
    ⟨(some 10), none, false, .ldn 4 (.tmp 2)⟩,
    ⟨(some 11), none, false, .call (.func 15) [.tmp 10]⟩,
    ⟨(some 12), none, false, .una .not (.tmp 11)⟩,
    ⟨(some 13), none, false, .mov (.tmp 12)⟩,
    ⟨(some 14), (some (13, false)), false, .mov (.tmp 1)⟩,
    ⟨(some 15), (some (13, false)), false, .fad 3 (.tmp 2)⟩,
    ⟨(some 16), (some (13, false)), false, .ld1 (.tmp 15)⟩,
    ⟨(some 17), (some (13, false)), false, .len .sl (.tmp 16)⟩,
    ⟨(some 18), (some (13, false)), false, .bin .sub (.tmp 17) (.const (Value.int IntKind.i64 1))⟩,
    ⟨(some 19), (some (13, false)), false, .call (.func 43) [.const (Value.int IntKind.i64 0), .tmp 14, .tmp 18]⟩,
    ⟨(some 20), (some (13, false)), false, .una .not (.tmp 19)⟩,
    ⟨(some 21), none, false, .pick (.tmp 13) (.const (Value.bool true)) (.tmp 20)⟩]) (.cond (.tmp 21) (.seq (.ops false [
    ⟨(some 4), none, false, .mov (.const (Value.int IntKind.i64 0))⟩,
    ⟨(some 5), none, false, .mov (.const (Value.int IntKind.i64 2))⟩]) .ret) .skip)) (.seq (.ops false [
    ⟨(some 6), none, false, .mov (.const (Value.int IntKind.i64 0))⟩]) (.seq (.ops false [
    ⟨(some 22), none, false, .mov (.tmp 1)⟩,
    ⟨(some 23), none, false, .len .sl (.tmp 22)⟩,
    ⟨(some 24), none, false, .mkh (.tmp 23)⟩,
    ⟨(some 7), none, false, .mov (.tmp 24)⟩]) (.seq (.seq (.ops false [
    ⟨(some 25), none, false, .mov (.tmp 1)⟩,
    ⟨(some 26), none, false, .len .sl (.tmp 25)⟩,
    ⟨(some 27), none, false, .mov (.const (Value.int IntKind.i64 0))⟩]) (.block 0 (.loop (.seq (.ops false [
    ⟨(some 28), none, false, .bin .lss (.tmp 27) (.tmp 26)⟩]) (.seq (.cond (.tmp 28) .skip (.exit 0)) (.seq (.block 1 (.seq (.ops false [
    ⟨(some 29), none, false, .ixs 1 (.tmp 25) (.tmp 27)⟩,
    ⟨(some 30), none, false, .ld1 (.tmp 29)⟩,
    ⟨(some 9), none, false, .mov (.tmp 30)⟩]) (.seq (.ops false [
    ⟨(some 31), none, false, .mov (.tmp 7)⟩,
    ⟨(some 32), none, false, .mov (.tmp 9)⟩,
    ⟨(some 33), none, false, .lkp ⟨false, [.i]⟩ (.bool false) false (.tmp 31) (.tmp 32)⟩,
    ⟨(some 34), none, false, .una .not (.tmp 33)⟩]) (.cond (.tmp 34) (.seq (.ops false [
    ⟨(some 35), none, false, .mov (.tmp 7)⟩,
    ⟨(some 36), none, false, .mov (.tmp 9)⟩,
    ⟨none, none, false, .mup ⟨false, [.i]⟩ (.tmp 35) (.tmp 36) (.const (Value.bool true))⟩]) (.ops false [
    ⟨(some 37), none, false, .mov (.tmp 6)⟩,
    ⟨(some 38), none, false, .fad 3 (.tmp 2)⟩,
    ⟨(some 39), none, false, .ld1 (.tmp 38)⟩,
    ⟨(some 40), none, false, .mov (.tmp 9)⟩,
    ⟨(some 41), none, false, .ixs 1 (.tmp 39) (.tmp 40)⟩,
    ⟨(some 42), none, false, .ld1 (.tmp 41)⟩,
    ⟨(some 43), none, false, .bin .add (.tmp 37) (.tmp 42)⟩,
    ⟨(some 6), none, false, .mov (.tmp 43)⟩])) .skip)))) (.ops false [
    ⟨(some 44), none, false, .bin .add (.tmp 27) (.const (Value.int IntKind.i64 1))⟩,
    ⟨(some 27), none, false, .mov (.tmp 44)⟩]))))))) (.seq (.ops false [
    ⟨(some 45), none, false, .mov (.tmp 6)⟩,
    ⟨(some 4), none, false, .mov (.tmp 45)⟩,
    ⟨(some 5), none, false, .mov (.const (Value.int IntKind.i64 0))⟩]) .ret)))))) }
theorem t28 : tabP Try.prog 0 28 = some ic28 := by kernel_rfl
/-- bandplan/bandplanref10.Valid -/
def ic29 : IFn := { ntmps := 75, results := [.tmp 2], code := (.seq (.ops false [
    ⟨(some 1), none, false, .box 4 (.tmp 0)⟩,
    ⟨(some 2), none, false, .mov (.const (Value.bool false))⟩]) (.seq (.seq (.ops false [
    ⟨(some 5), none, false, .fad 0 (.tmp 1)⟩,
    ⟨(some 6), none, false, .ld1 (.tmp 5)⟩,
    ⟨(some 7), none, false, .bin .lss (.tmp 6) (.const (Value.int IntKind.i64 1))⟩,
    ⟨(some 8), none, false, .mov (.tmp 7)⟩,
    ⟨(some 9), (some (8, false)), false, .fad 0 (.tmp 1)⟩,
    ⟨(some 10), (some (8, false)), false, .ld1 (.tmp 9)⟩,
    ⟨(some 11), (some (8, false)), false, .bin .gtr (.tmp 10) (.const (Value.int IntKind.i64 64))⟩,
    ⟨(some 12), none, false, .pick (.tmp 8) (.const (Value.bool true)) (.tmp 11)⟩,
    ⟨(some 13), none, false, .mov (.tmp 12)⟩,
    ⟨(some 14), (some (13, false)), false, .fad 1 (.tmp 1)⟩,
    ⟨(some 15), (some (13, false)), false, .ld1 (.tmp 14)⟩,
    ⟨(some 16), (some (13, false)), false, .bin .lss (.tmp 15) (.const (Value.int IntKind.i64 1))⟩,
    ⟨(some 17), none, false, .pick (.tmp 13) (.const (Value.bool true)) (.tmp 16)⟩,
    ⟨(some 18), none, false, .mov (.tmp 17)⟩,
    ⟨(some 19), (some (18, false)), false, .fad 1 (.tmp 1)⟩,
    ⟨(some 20), (some (18, false)), false, .ld1 (.tmp 19)⟩,
    ⟨(some 21), (some (18, false)), false, .bin .gtr (.tmp 20) (.const (Value.int IntKind.i64 64))⟩,
    ⟨(some 22), none, false, .pick (.tmp 18) (.const (Value.bool true)) (.tmp 21)⟩]) (.cond (.tmp 22) (.seq (.ops false [
    ⟨(some 2), none, false, .mov (.const (Value.bool false))⟩]) .ret) .skip)) (.seq (.ops false [
    ⟨(some 23), none, false, .fad 0 (.tmp 1)⟩,
    ⟨(some 24), none, false, .ld1 (.tmp 23)⟩,
    ⟨(some 25), none, false, .fad 1 (.tmp 1)⟩,
    ⟨(some 26), none, false, .ld1 (.tmp 25)⟩,
    ⟨(some 27), none, false, .bin .mul (.tmp 24) (.tmp 26)⟩,
    ⟨(some 3), none, false, .mov (.tmp 27)⟩]) (.seq (.seq (.ops false [
    ⟨(some 28), none, false, .fad 2 (.tmp 1)⟩,
    ⟨(some 29), none, false, .ld1 (.tmp 28)⟩,
    ⟨(some 30), none, false, .len .sl (.tmp 29)⟩,
    ⟨(some 31), none, false, .mov (.tmp 3)⟩,
    ⟨(some 32), none, false, .bin .neq (.tmp 30) (.tmp 31)⟩,
    ⟨(some 33), none, false, .mov (.tmp 32)⟩,
    ⟨(some 34), (some (33, false)), false, .fad 3 (.tmp 1)⟩,
    ⟨(some 35), (some (33, false)), false, .ld1 (.tmp 34)⟩,
    ⟨(some 36), (some (33, false)), false, .len .sl (.tmp 35)⟩,
    ⟨(some 37), (some (33, false)), false, .mov (.tmp 3)⟩,
    ⟨(some 38), (some (33, false)), false, .bin .neq (.tmp 36) (.tmp 37)⟩,
    ⟨(some 39), none, false, .pick (.tmp 33) (.const (Value.bool true)) (.tmp 38)⟩]) (.cond (.tmp 39) (.seq (.ops false [
    ⟨(some 2), none, false, .mov (.const (Value.bool false))⟩]) .ret) .skip)) (.seq (.seq (.ops false [
    ⟨(some 4), none, false, .mov (.const (Value.int IntKind.i64 0))⟩]) (.block 0 (.loop (.seq (.seq (.ops false [
    ⟨(some 40), none, false, .mov (.tmp 4)⟩,
    ⟨(some 41), none, false, .mov (.tmp 3)⟩,
    ⟨(some 42), none, false, .bin .lss (.tmp 40) (.tmp 41)⟩]) (.cond (.tmp 42) .skip (.exit 0))) (.seq (.block 1 (.seq (.ops false [
    ⟨(some 45), none, false, .fad 2 (.tmp 1)⟩,
    ⟨(some 46), none, false, .ld1 (.tmp 45)⟩,
    ⟨(some 47), none, false, .mov (.tmp 4)⟩,
    ⟨(some 48), none, false, .ixs 1 (.tmp 46) (.tmp 47)⟩,
    ⟨(some 49), none, false, .ld1 (.tmp 48)⟩,
    ⟨(some 50), none, false, .bin .lss (.tmp 49) (.const (Value.int IntKind.i64 0))⟩,
    ⟨(some 51), none, false, .mov (.tmp 50)⟩,
    ⟨(some 52), (some (51, false)), false, .fad 2 (.tmp 1)⟩,
    ⟨(some 53), (some (51, false)), false, .ld1 (.tmp 52)⟩,
    ⟨(some 54), (some (51, false)), false, .mov (.tmp 4)⟩,
    ⟨(some 55), (some (51, false)), false, .ixs 1 (.tmp 53) (.tmp 54)⟩,
    ⟨(some 56), (some (51, false)), false, .ld1 (.tmp 55)⟩,
    ⟨(some 57), (some (51, false)), false, .bin .gtr (.tmp 56) (.const (Value.int IntKind.i64 9000))⟩,
    ⟨(some 58), none, false, .pick (.tmp 51) (.const (Value.bool true)) (.tmp 57)⟩,
    ⟨(some 59), none, false, .mov (.tmp 58)⟩,
    ⟨(some 60), (some (59, false)), false, .fad 3 (.tmp 1)⟩,
    ⟨(some 61), (some (59, false)), false, .ld1 (.tmp 60)⟩,
    ⟨(some 62), (some (59, false)), false, .mov (.tmp 4)⟩,
    ⟨(some 63), (some (59, false)), false, .ixs 1 (.tmp 61) (.tmp 62)⟩,
    ⟨(some 64), (some (59, false)), false, .ld1 (.tmp 63)⟩,
    ⟨(some 65), (some (59, false)), false, .bin .lss (.tmp 64) (.const (Value.int IntKind.i64 0))⟩,
    ⟨(some 66), none, false, .pick (.tmp 59) (.const (Value.bool true)) (.tmp 65)⟩,
    ⟨(some 67), none, false, .mov (.tmp 66)⟩,
    ⟨(some 68), (some (67, false)), false, .fad 3 (.tmp 1)⟩,
    ⟨(some 69), (some (67, false)), false, .ld1 (.tmp 68)⟩,
    ⟨(some 70), (some (67, false)), false, .mov (.tmp 4)⟩,
    ⟨(some 71), (some (67, false)), false, .ixs 1 (.tmp 69) (.tmp 70)⟩,
    ⟨(some 72), (some (67, false)), false, .ld1 (.tmp 71)⟩,
    ⟨(some 73), (some (67, false)), false, .bin .gtr (.tmp 72) (.const (Value.int IntKind.i64 1000000))⟩,
    ⟨(some 74), none, false, .pick (.tmp 67) (.const (Value.bool true)) (.tmp 73)⟩]) (.cond (.tmp 74) (.seq (.ops false [
    ⟨(some 2), none, false, .mov (.const (Value.bool false))⟩]) .ret) .skip))) (.ops false [
    ⟨(some 43), none, false, .mov (.tmp 4)⟩,
    ⟨(some 44), none, false, .bin .add (.tmp 43) (.const (Value.int IntKind.i64 1))⟩,
    ⟨(some 4), none, false, .mov (.tmp 44)⟩])))))) (.seq (.ops false [
    ⟨(some 2), none, false, .mov (.const (Value.bool true))⟩]) .ret)))))) }
theorem t29 : tabP Try.prog 0 29 = some ic29 := by kernel_rfl
/-- bandplan/bandplanref10.Total -/
def ic30 : IFn := { ntmps := 63, results := [.tmp 4, .tmp 5], code := (.seq (.ops false [
    ⟨(some 2), none, false, .box 4 (.tmp 0)⟩,
    ⟨(some 4), none, false, .mov (.const (Value.int IntKind.i64 0))⟩,
    ⟨(some 5), none, false, .mov (.const (Value.bool false))⟩]) (.seq (.ops false [
    ⟨(some 6), none, false, .mov (.const (Value.int IntKind.i64 0))⟩]) (.seq (.seq (.ops false [
    ⟨(some 7), none, false, .mov (.const (Value.int IntKind.i64 0))⟩]) (.block 0 (.loop (.seq (.seq (.ops false [
    ⟨(some 10), none, false, .mov (.tmp 7)⟩,
    ⟨(some 11), none, false, .mov (.tmp 1)⟩,
    ⟨(some 12), none, false, .len .sl (.tmp 11)⟩,
    ⟨(some 13), none, false, .bin .lss (.tmp 10) (.tmp 12)⟩]) (.cond (.tmp 13) .skip (.exit 0))) (.seq (.block 1 (.seq (.seq (.ops true [
    ⟨(some 16), none, false, .mov (.tmp 1)⟩,
    ⟨(some 17), none, false, .mov (.tmp 7)⟩,
    ⟨(some 18), none, false, .ixs 1 (.tmp 16) (.tmp 17)⟩,
    ⟨(some 19), none, false, .ld1 (.tmp 18)⟩,
    ⟨(some 20), none, false, .bin .lss (.tmp 19) (.const (Value.int IntKind.i64 0))⟩,
    ⟨(some 21), none, false, .mov (.tmp 20)⟩,
    ⟨(some 22), (some (21, false)), false, .mov (.tmp 1)⟩,
    ⟨(some 23), (some (21, false)), false, .mov (.tmp 7)⟩,
    ⟨(some 24), (some (21, false)), false, .ixs 1 (.tmp 22) (.tmp 23)⟩,
    ⟨(some 25), (some (21, false)), false, .ld1 (.tmp 24)⟩,
    ⟨(some 26), (some (21, false)), false, .fad 0 (.tmp 2)⟩,
    ⟨(some 27), (some (21, false)), false, .ld1 (.tmp 26)⟩,
    ⟨(some 28), (some (21, false)), false, .fad 1 (.tmp 2)⟩,
    ⟨(some 29), (some (21, false)), false, .ld1 (.tmp 28)⟩,
    ⟨(some 30), (some (21, false)), false, .bin .mul (.tmp 27) (.tmp 29)⟩,
    ⟨(some 31), (some (21, false)), false, .bin .geq (.tmp 25) (.tmp 30)⟩,
    ⟨(some 32), none, false, .pick (.tmp 21) (.const (Value.bool true)) (.tmp 31)⟩]) (.cond (.tmp 32) (.seq (.ops false [
    ⟨(some 4), none, false, .mov (.const (Value.int IntKind.i64 0))⟩,
    ⟨(some 5), none, false, .mov (.const (Value.bool false))⟩]) .ret) .skip)) (.seq (.ops false [
    ⟨(some 8), none, false, .mov (.const (Value.bool false))⟩]) (.seq (.seq (.ops false [
    ⟨(some 9), none, false, .mov (.const (Value.int IntKind.i64 0))⟩]) (.block 2 (.loop (.seq (.seq (.ops false [
    ⟨(some 33), none, false, .mov (.tmp 9)⟩,
    ⟨(some 34), none, false, .mov (.tmp 7)⟩,
    ⟨(some 35), none, false, .bin .lss (.tmp 33) (.tmp 34)⟩]) (.cond (.tmp 35) .skip (.exit 2))) (.seq (.block 3 (.ops true [
    ⟨(some 38), none, false, .mov (.tmp 8)⟩,
    ⟨(some 39), none, false, .mov (.tmp 38)⟩,
    ⟨(some 40), (some (39, false)), false, .mov (.tmp 1)⟩,
    ⟨(some 41), (some (39, false)), false, .mov (.tmp 9)⟩,
    ⟨(some 42), (some (39, false)), false, .ixs 1 (.tmp 40) (.tmp 41)⟩,
    ⟨(some 43), (some (39, false)), false, .ld1 (.tmp 42)⟩,
    ⟨(some 44), (some (39, false)), false, .mov (.tmp 1)⟩,
    ⟨(some 45), (some (39, false)), false, .mov (.tmp 7)⟩,
    ⟨(some 46), (some (39, false)), false, .ixs 1 (.tmp 44) (.tmp 45)⟩,
    ⟨(some 47), (some (39, false)), false, .ld1 (.tmp 46)⟩,
    ⟨(some 48), (some (39, false)), false, .bin .eql (.tmp 43) (.tmp 47)⟩,
    ⟨(some 49), none, false, .pick (.tmp 39) (.const (Value.bool true)) (.tmp 48)⟩,
    ⟨(some 8), none, false, .mov (.tmp 49)⟩])) (.ops false [
    ⟨(some 36), none, false, .mov (.tmp 9)⟩,
    ⟨(some 37), none, false, .bin .add (.tmp 36) (.const (Value.int IntKind.i64 1))⟩,
    ⟨(some 9), none, false, .mov (.tmp 37)⟩])))))) (.seq (.ops false [
    ⟨(some 50), none, false, .mov (.tmp 8)⟩,
    ⟨(some 51), none, false, .una .not (.tmp 50)⟩]) (.cond (.tmp 51) (.ops true [
    ⟨(some 52), none, false, .mov (.tmp 6)⟩,
    ⟨(some 53), none, false, .fad 3 (.tmp 2)⟩,
    ⟨(some 54), none, false, .ld1 (.tmp 53)⟩,
    ⟨(some 55), none, false, .mov (.tmp 1)⟩,
    ⟨(some 56), none, false, .mov (.tmp 7)⟩,
    ⟨(some 57), none, false, .ixs 1 (.tmp 55) (.tmp 56)⟩,
    ⟨(some 58), none, false, .ld1 (.tmp 57)⟩,
    ⟨(some 59), none, false, .ixs 1 (.tmp 54) (.tmp 58)⟩,
    ⟨(some 60), none, false, .ld1 (.tmp 59)⟩,
    ⟨(some 61), none, false, .bin .add (.tmp 52) (.tmp 60)⟩,
    ⟨(some 6), none, false, .mov (.tmp 61)⟩]) .skip)))))) (.ops false [
    ⟨(some 14), none, false, .mov (.tmp 7)⟩,
    ⟨(some 15), none, false, .bin .add (.tmp 14) (.const (Value.int IntKind.i64 1))⟩,
    ⟨(some 7), none, false, .mov (.tmp 15)⟩])))))) (.seq (.ops false [
    ⟨(some 62), none, false, .mov (.tmp 6)⟩,
    ⟨(some 4), none, false, .mov (.tmp 62)⟩,
    ⟨(some 5), none, false, .mov (.const (Value.bool true))⟩]) .ret)))) }
theorem t30 : tabP Try.prog 0 30 = some ic30 := by kernel_rfl
/-- bandplan/bandplanlaw10.near -/
def ic31 : IFn := { ntmps := 9, results := [.tmp 4], code := (.seq (.ops false [
    ⟨(some 2), none, false, .box 2 (.tmp 0)⟩,
    ⟨(some 3), none, false, .box 2 (.tmp 1)⟩,
    ⟨(some 4), none, false, .mov (.const (Value.bool false))⟩]) (.seq (.ops false [
    ⟨(some 5), none, false, .ldn 2 (.tmp 2)⟩,
    ⟨(some 6), none, false, .ldn 2 (.tmp 3)⟩,
    ⟨(some 7), none, false, .call (.func 47) [.tmp 5, .tmp 6]⟩,
    ⟨(some 8), none, false, .bin .leq (.tmp 7) (.const (Value.int IntKind.i64 1))⟩,
    ⟨(some 4), none, false, .mov (.tmp 8)⟩]) .ret)) }
theorem t31 : tabP Try.prog 0 31 = some ic31 := by kernel_rfl
/-- bandplan/terrain.Has -/
def ic32 : IFn := { ntmps := 23, results := [.tmp 4], code := (.seq (.ops false [
    ⟨(some 2), none, false, .box 4 (.tmp 0)⟩,
    ⟨(some 3), none, false, .box 2 (.tmp 1)⟩,
    ⟨(some 4), none, false, .mov (.const (Value.bool false))⟩]) (.seq (.ops false [
    ⟨(some 5), none, false, .fad 0 (.tmp 3)⟩,
    ⟨(some 6), none, false, .ld1 (.tmp 5)⟩,
    ⟨(some 7), none, false, .fad 0 (.tmp 2)⟩,
    ⟨(some 8), none, false, .ld1 (.tmp 7)⟩,
    ⟨(some 9), none, false, .bin .sub (.tmp 8) (.const (Value.int IntKind.i64 1))⟩,
    ⟨(some 10), none, false, .call (.func 41) [.const (Value.int IntKind.i64 0), .tmp 6, .tmp 9]⟩,
    ⟨(some 11), none, false, .mov (.tmp 10)⟩,
    ⟨(some 12), (some (11, true)), false, .fad 1 (.tmp 3)⟩,
    ⟨(some 13), (some (11, true)), false, .ld1 (.tmp 12)⟩,
    ⟨(some 14), (some (11, true)), false, .fad 1 (.tmp 2)⟩,
    ⟨(some 15), (some (11, true)), false, .ld1 (.tmp 14)⟩,
    ⟨(some 16), (some (11, true)), false, .bin .sub (.tmp 15) (.const (Value.int IntKind.i64 1))⟩,
    ⟨(some 17), (some (11, true)), false, .call (.func 41) [.const (Value.int IntKind.i64 0), .tmp 13, .tmp 16]⟩,
    ⟨(some 18), none, false, .pick (.tmp 11) (.tmp 17) (.const (Value.bool false))⟩,
    ⟨(some 19), none, false, .mov (.tmp 18)⟩,
    ⟨(some 20), (some (19, true)), false, .ldn 4 (.tmp 2)⟩,
    ⟨(some 21), (some (19, true)), false, .call (.func 15) [.tmp 20]⟩,
    ⟨(some 22), none, false, .pick (.tmp 19) (.tmp 21) (.const (Value.bool false))⟩,
    ⟨(some 4), none, false, .mov (.tmp 22)⟩]) .ret)) }
theorem t32 : tabP Try.prog 0 32 = some ic32 := by kernel_rfl
/-- bandplan/terrain.Index -/
def ic33 : IFn := { ntmps := 13, results := [.tmp 4, .tmp 5], code := (.seq (.ops false [
    ⟨(some 2), none, false, .box 4 (.tmp 0)⟩,
    ⟨(some 3), none, false, .box 2 (.tmp 1)⟩,
    ⟨(some 4), none, false, .mov (.const (Value.int IntKind.i64 0))⟩,
    ⟨(some 5), none, false, .mov (.const (Value.int IntKind.i64 0))⟩]) (.seq (.seq (.ops false [
    ⟨(some 6), none, false, .ldn 4 (.tmp 2)⟩,
    ⟨(some 7), none, false, .ldn 2 (.tmp 3)⟩,
    ⟨(some 8), none, false, .call (.func 32) [.tmp 6, .tmp 7]⟩,
    ⟨(some 9), none, false, .una .not (.tmp 8)⟩]) (.cond (.tmp 9) (.seq (.ops false [
    ⟨(some 4), none, false, .mov (.const (Value.int IntKind.i64 0))⟩,
    ⟨(some 5), none, false, .mov (.const (Value.int IntKind.i64 2))⟩]) .ret) .skip)) (.seq (.ops false [
    ⟨(some 10), none, false, .ldn 4 (.tmp 2)⟩,
    ⟨(some 11), none, false, .ldn 2 (.tmp 3)⟩,
    ⟨(some 12), none, false, .call (.func 44) [.tmp 10, .tmp 11]⟩,
    ⟨(some 4), none, false, .mov (.tmp 12)⟩,
    ⟨(some 5), none, false, .mov (.const (Value.int IntKind.i64 0))⟩]) .ret))) }
theorem t33 : tabP Try.prog 0 33 = some ic33 := by kernel_rfl
/-- bandplan/terrain.Ground -/
def ic34 : IFn := { ntmps := 17, results := [.tmp 4, .tmp 5], code := (.seq (.ops false [
    ⟨(some 2), none, false, .box 4 (.tmp 0)⟩,
    ⟨(some 3), none, false, .box 2 (.tmp 1)⟩,
    ⟨(some 4), none, false, .mov (.const (Value.int IntKind.i64 0))⟩,
    ⟨(some 5), none, false, .mov (.const (Value.int IntKind.i64 0))⟩]) (.seq (.seq (.ops false [
    ⟨(some 6), none, false, .ldn 4 (.tmp 2)⟩,
    ⟨(some 7), none, false, .ldn 2 (.tmp 3)⟩,
    ⟨(some 8), none, false, .call (.func 32) [.tmp 6, .tmp 7]⟩,
    ⟨(some 9), none, false, .una .not (.tmp 8)⟩]) (.cond (.tmp 9) (.seq (.ops false [
    ⟨(some 4), none, false, .mov (.const (Value.int IntKind.i64 0))⟩,
    ⟨(some 5), none, false, .mov (.const (Value.int IntKind.i64 2))⟩]) .ret) .skip)) (.seq (.ops true [
    ⟨(some 10), none, false, .fad 2 (.tmp 2)⟩,
    ⟨(some 11), none, false, .ld1 (.tmp 10)⟩,
    ⟨(some 12), none, false, .ldn 4 (.tmp 2)⟩,
    ⟨(some 13), none, false, .ldn 2 (.tmp 3)⟩,
    ⟨(some 14), none, true, .call (.func 44) [.tmp 12, .tmp 13]⟩,
    ⟨(some 15), none, false, .ixs 1 (.tmp 11) (.tmp 14)⟩,
    ⟨(some 16), none, false, .ld1 (.tmp 15)⟩,
    ⟨(some 4), none, false, .mov (.tmp 16)⟩,
    ⟨(some 5), none, false, .mov (.const (Value.int IntKind.i64 0))⟩]) .ret))) }
theorem t34 : tabP Try.prog 0 34 = some ic34 := by kernel_rfl
/-- bandplan/terrain.People -/
def ic35 : IFn := { ntmps := 17, results := [.tmp 4, .tmp 5], code := (.seq (.ops false [
    ⟨(some 2), none, false, .box 4 (.tmp 0)⟩,
    ⟨(some 3), none, false, .box 2 (.tmp 1)⟩,
    ⟨(some 4), none, false, .mov (.const (Value.int IntKind.i64 0))⟩,
    ⟨(some 5), none, false, .mov (.const (Value.int IntKind.i64 0))⟩]) (.seq (.seq (.ops false [
    ⟨(some 6), none, false, .ldn 4 (.tmp 2)⟩,
    ⟨(some 7), none, false, .ldn 2 (.tmp 3)⟩,
    ⟨(some 8), none, false, .call (.func 32) [.tmp 6, .tmp 7]⟩,
    ⟨(some 9), none, false, .una .not (.tmp 8)⟩]) (.cond (.tmp 9) (.seq (.ops false [
    ⟨(some 4), none, false, .mov (.const (Value.int IntKind.i64 0))⟩,
    ⟨(some 5), none, false, .mov (.const (Value.int IntKind.i64 2))⟩]) .ret) .skip)) (.seq (.ops true [
    ⟨(some 10), none, false, .fad 3 (.tmp 2)⟩,
    ⟨(some 11), none, false, .ld1 (.tmp 10)⟩,
    ⟨(some 12), none, false, .ldn 4 (.tmp 2)⟩,
    ⟨(some 13), none, false, .ldn 2 (.tmp 3)⟩,
    ⟨(some 14), none, true, .call (.func 44) [.tmp 12, .tmp 13]⟩,
    ⟨(some 15), none, false, .ixs 1 (.tmp 11) (.tmp 14)⟩,
    ⟨(some 16), none, false, .ld1 (.tmp 15)⟩,
    ⟨(some 4), none, false, .mov (.tmp 16)⟩,
    ⟨(some 5), none, false, .mov (.const (Value.int IntKind.i64 0))⟩]) .ret))) }
theorem t35 : tabP Try.prog 0 35 = some ic35 := by kernel_rfl
/-- bandplan/terrain.At -/
def ic36 : IFn := { ntmps := 28, results := [.agg 4 2, .tmp 5], code := (.seq (.ops false [
    ⟨(some 2), none, false, .box 4 (.tmp 0)⟩,
    ⟨(some 4), none, false, .new [.int .i64 0, .int .i64 0]⟩,
    ⟨(some 5), none, false, .mov (.const (Value.int IntKind.i64 0))⟩]) (.seq (.seq (.ops false [
    ⟨(some 6), none, false, .ldn 4 (.tmp 2)⟩,
    ⟨(some 7), none, false, .call (.func 15) [.tmp 6]⟩,
    ⟨(some 8), none, false, .una .not (.tmp 7)⟩,
    ⟨(some 9), none, false, .mov (.tmp 8)⟩,
    ⟨(some 10), (some (9, false)), false, .mov (.tmp 1)⟩,
    ⟨(some 11), (some (9, false)), false, .fad 2 (.tmp 2)⟩,
    ⟨(some 12), (some (9, false)), false, .ld1 (.tmp 11)⟩,
    ⟨(some 13), (some (9, false)), false, .len .sl (.tmp 12)⟩,
    ⟨(some 14), (some (9, false)), false, .bin .sub (.tmp 13) (.const (Value.int IntKind.i64 1))⟩,
    ⟨(some 15), (some (9, false)), false, .call (.func 41) [.const (Value.int IntKind.i64 0), .tmp 10, .tmp 14]⟩,
    ⟨(some 16), (some (9, false)), false, .una .not (.tmp 15)⟩,
    ⟨(some 17), none, false, .pick (.tmp 9) (.const (Value.bool true)) (.tmp 16)⟩]) (.cond (.tmp 17) (.seq (.ops false [
    ⟨(some 18), none, false, .bld [.int .i64 0, .int .i64 0] []⟩,
    ⟨none, none, false, .sto 2 (.tmp 4) (.tmp 18)⟩,
    ⟨(some 5), none, false, .mov (.const (Value.int IntKind.i64 2))⟩]) .ret) .skip)) (.seq (.ops true [
    ⟨(some 19), none, false, .mov (.tmp 1)⟩,
    ⟨(some 20), none, false, .fad 0 (.tmp 2)⟩,
    ⟨(some 21), none, false, .ld1 (.tmp 20)⟩,
    ⟨(some 22), none, false, .bin .rem (.tmp 19) (.tmp 21)⟩,
    ⟨(some 23), none, false, .mov (.tmp 1)⟩,
    ⟨(some 24), none, false, .fad 0 (.tmp 2)⟩,
    ⟨(some 25), none, false, .ld1 (.tmp 24)⟩,
    ⟨(some 26), none, false, .bin .quo (.tmp 23) (.tmp 25)⟩,
    ⟨(some 27), none, false, .bld [.int .i64 0, .int .i64 0] [(0, 1, .tmp 22), (1, 1, .tmp 26)]⟩,
    ⟨none, none, false, .sto 2 (.tmp 4) (.tmp 27)⟩,
    ⟨(some 5), none, false, .mov (.const (Value.int IntKind.i64 0))⟩]) .ret))) }
theorem t36 : tabP Try.prog 0 36 = some ic36 := by kernel_rfl
/-- bandplan/bandplanref10.Index -/
def ic37 : IFn := { ntmps := 13, results := [.tmp 4], code := (.seq (.ops false [
    ⟨(some 2), none, false, .box 4 (.tmp 0)⟩,
    ⟨(some 3), none, false, .box 2 (.tmp 1)⟩,
    ⟨(some 4), none, false, .mov (.const (Value.int IntKind.i64 0))⟩]) (.seq (.ops false [
    ⟨(some 5), none, false, .fad 1 (.tmp 3)⟩,
    ⟨(some 6), none, false, .ld1 (.tmp 5)⟩,
    ⟨(some 7), none, false, .fad 0 (.tmp 2)⟩,
    ⟨(some 8), none, false, .ld1 (.tmp 7)⟩,
    ⟨(some 9), none, false, .bin .mul (.tmp 6) (.tmp 8)⟩,
    ⟨(some 10), none, false, .fad 0 (.tmp 3)⟩,
    ⟨(some 11), none, false, .ld1 (.tmp 10)⟩,
    ⟨(some 12), none, false, .bin .add (.tmp 9) (.tmp 11)⟩,
    ⟨(some 4), none, false, .mov (.tmp 12)⟩]) .ret)) }
theorem t37 : tabP Try.prog 0 37 = some ic37 := by kernel_rfl
/-- bandplan/bandplanref10.At -/
def ic38 : IFn := { ntmps := 14, results := [.agg 4 2], code := (.seq (.ops false [
    ⟨(some 2), none, false, .box 4 (.tmp 0)⟩,
    ⟨(some 4), none, false, .new [.int .i64 0, .int .i64 0]⟩]) (.seq (.ops true [
    ⟨(some 5), none, false, .mov (.tmp 1)⟩,
    ⟨(some 6), none, false, .fad 0 (.tmp 2)⟩,
    ⟨(some 7), none, false, .ld1 (.tmp 6)⟩,
    ⟨(some 8), none, false, .bin .rem (.tmp 5) (.tmp 7)⟩,
    ⟨(some 9), none, false, .mov (.tmp 1)⟩,
    ⟨(some 10), none, false, .fad 0 (.tmp 2)⟩,
    ⟨(some 11), none, false, .ld1 (.tmp 10)⟩,
    ⟨(some 12), none, false, .bin .quo (.tmp 9) (.tmp 11)⟩,
    ⟨(some 13), none, false, .bld [.int .i64 0, .int .i64 0] [(0, 1, .tmp 8), (1, 1, .tmp 12)]⟩,
    ⟨none, none, false, .sto 2 (.tmp 4) (.tmp 13)⟩]) .ret)) }
theorem t38 : tabP Try.prog 0 38 = some ic38 := by kernel_rfl
/-- bandplan/terrain.Equal -/
def ic39 : IFn := { ntmps := 27, results := [.tmp 4], code := (.seq (.ops false [
    ⟨(some 2), none, false, .box 4 (.tmp 0)⟩,
    ⟨(some 3), none, false, .box 4 (.tmp 1)⟩,
    ⟨(some 4), none, false, .mov (.const (Value.bool false))⟩]) (.seq (.ops false [
    ⟨(some 5), none, false, .mov (.func 50)⟩]) (.seq (.ops true [
    ⟨(some 6), none, false, .mov (.tmp 5)⟩,
    ⟨(some 7), none, false, .ldn 4 (.tmp 2)⟩,
    ⟨(some 8), none, true, .call (.tmp 6) [.tmp 7]⟩,
    ⟨(some 9), none, false, .mov (.tmp 5)⟩,
    ⟨(some 10), none, false, .ldn 4 (.tmp 3)⟩,
    ⟨(some 11), none, false, .call (.tmp 9) [.tmp 10]⟩,
    ⟨(some 12), none, false, .eq (.flat [.i, .i]) false (.tmp 8) (.tmp 11)⟩,
    ⟨(some 13), none, false, .mov (.tmp 12)⟩,
    ⟨(some 14), (some (13, true)), false, .fad 2 (.tmp 2)⟩,
    ⟨(some 15), (some (13, true)), false, .ld1 (.tmp 14)⟩,
    ⟨(some 16), (some (13, true)), false, .fad 2 (.tmp 3)⟩,
    ⟨(some 17), (some (13, true)), false, .ld1 (.tmp 16)⟩,
    ⟨(some 18), (some (13, true)), false, .call (.func 51) [.tmp 15, .tmp 17]⟩,
    ⟨(some 19), none, false, .pick (.tmp 13) (.tmp 18) (.const (Value.bool false))⟩,
    ⟨(some 20), none, false, .mov (.tmp 19)⟩,
    ⟨(some 21), (some (20, true)), false, .fad 3 (.tmp 2)⟩,
    ⟨(some 22), (some (20, true)), false, .ld1 (.tmp 21)⟩,
    ⟨(some 23), (some (20, true)), false, .fad 3 (.tmp 3)⟩,
    ⟨(some 24), (some (20, true)), false, .ld1 (.tmp 23)⟩,
    ⟨(some 25), (some (20, true)), false, .call (.func 51) [.tmp 22, .tmp 24]⟩,
    ⟨(some 26), none, false, .pick (.tmp 20) (.tmp 25) (.const (Value.bool false))⟩,
    ⟨(some 4), none, false, .mov (.tmp 26)⟩]) .ret))) }
theorem t39 : tabP Try.prog 0 39 = some ic39 := by kernel_rfl
/-- bandplan/terrain.Copy -/
def ic40 : IFn := { ntmps := 14, results := [.agg 2 4], code := (.seq (.ops false [
    ⟨(some 1), none, false, .box 4 (.tmp 0)⟩,
    ⟨(some 2), none, false, .new [.int .i64 0, .int .i64 0, .slice none 0 0, .slice none 0 0]⟩]) (.seq (.ops true [
    ⟨(some 3), none, false, .fad 0 (.tmp 1)⟩,
    ⟨(some 4), none, false, .ld1 (.tmp 3)⟩,
    ⟨(some 5), none, false, .fad 1 (.tmp 1)⟩,
    ⟨(some 6), none, false, .ld1 (.tmp 5)⟩,
    ⟨(some 7), none, false, .fad 2 (.tmp 1)⟩,
    ⟨(some 8), none, false, .ld1 (.tmp 7)⟩,
    ⟨(some 9), none, true, .call (.func 52) [.tmp 8]⟩,
    ⟨(some 10), none, false, .fad 3 (.tmp 1)⟩,
    ⟨(some 11), none, false, .ld1 (.tmp 10)⟩,
    ⟨(some 12), none, true, .call (.func 52) [.tmp 11]⟩,
    ⟨(some 13), none, false, .bld [.int .i64 0, .int .i64 0, .slice none 0 0, .slice none 0 0] [(0, 1, .tmp 4), (1, 1, .tmp 6), (2, 1, .tmp 9), (3, 1, .tmp 12)]⟩,
    ⟨none, none, false, .sto 4 (.tmp 2) (.tmp 13)⟩]) .ret)) }
theorem t40 : tabP Try.prog 0 40 = some ic40 := by kernel_rfl
/-- bandplan/terrain.within[int] -/
def ic41 : IFn := { ntmps := 15, results := [.tmp 6], code := (.seq (.ops false [
    ⟨(some 6), none, false, .mov (.const (Value.bool false))⟩]) (.seq (.ops false [
    ⟨(some 7), none, false, .mov (.tmp 0)⟩,
    ⟨(some 8), none, false, .mov (.tmp 1)⟩,
    ⟨(some 9), none, false, .bin .leq (.tmp 7) (.tmp 8)⟩,
    ⟨(some 10), none, false, .mov (.tmp 9)⟩,
    ⟨(some 11), (some (10, true)), false, .mov (.tmp 1)⟩,
    ⟨(some 12), (some (10, true)), false, .mov (.tmp 2)⟩,
    ⟨(some 13), (some (10, true)), false, .bin .leq (.tmp 11) (.tmp 12)⟩,
    ⟨(some 14), none, false, .pick (.tmp 10) (.tmp 13) (.const (Value.bool false))⟩,
    ⟨(some 6), none, false, .mov (.tmp 14)⟩]) .ret)) }
theorem t41 : tabP Try.prog 0 41 = some ic41 := by kernel_rfl
/-- slices.Repeat[[]int,int] -/
def ic42 : IFn := { ntmps := 48, results := [.tmp 4], code := (.seq (.ops false [
    ⟨(some 4), none, false, .mov (.const (Value.slice none 0 0))⟩]) (.seq (.seq (.ops false [
    ⟨(some 9), none, false, .mov (.tmp 1)⟩,
    ⟨(some 10), none, false, .bin .lss (.tmp 9) (.const (Value.int IntKind.i64 0))⟩]) (.cond (.tmp 10) (.ops false [
    ⟨(some 11), none, false, .mki 9 (.const (.string ⟨#[99, 97, 110, 110, 111, 116, 32, 98, 101, 32, 110, 101, 103, 97, 116, 105, 118, 101]⟩))⟩,
    ⟨none, none, false, .pan (.tmp 11)⟩]) .skip)) (.seq (.ops false [
    ⟨(some 13), none, false, .mov (.tmp 0)⟩,
    ⟨(some 14), none, false, .len .sl (.tmp 13)⟩,
    ⟨(some 15), none, false, .cnv .u64 (.tmp 14)⟩,
    ⟨(some 16), none, false, .mov (.tmp 1)⟩,
    ⟨(some 17), none, false, .cnv .u64 (.tmp 16)⟩,
    ⟨(some 18), none, false, .call (.func 53) [.tmp 15, .tmp 17]⟩,
    ⟨(some 12), none, false, .mov (.tmp 18)⟩,
    ⟨(some 19), none, false, .ext (.tmp 12) 0⟩,
    ⟨(some 20), none, false, .ext (.tmp 12) 1⟩,
    ⟨(some 5), none, false, .mov (.tmp 19)⟩,
    ⟨(some 6), none, false, .mov (.tmp 20)⟩]) (.seq (.seq (.ops false [
    ⟨(some 21), none, false, .mov (.tmp 5)⟩,
    ⟨(some 22), none, false, .bin .gtr (.tmp 21) (.const (Value.int IntKind.u64 0))⟩,
    ⟨(some 23), none, false, .mov (.tmp 22)⟩,
    ⟨(some 24), (some (23, false)), false, .mov (.tmp 6)⟩,
    ⟨(some 25), (some (23, false)), false, .bin .gtr (.tmp 24) (.const (Value.int IntKind.u64 9223372036854775807))⟩,
    ⟨(some 26), none, false, .pick (.tmp 23) (.const (Value.bool true)) (.tmp 25)⟩]) (.cond (.tmp 26) (.ops false [
    ⟨(some 27), none, false, .mki 9 (.const (.string ⟨#[116, 104, 101, 32, 114, 101, 115, 117, 108, 116, 32, 111, 102, 32, 40, 108, 101, 110, 40, 120, 41, 32, 42, 32, 99, 111, 117, 110, 116, 41, 32, 111, 118, 101, 114, 102, 108, 111, 119, 115]⟩))⟩,
    ⟨none, none, false, .pan (.tmp 27)⟩]) .skip)) (.seq (.ops false [
    ⟨(some 28), none, false, .mov (.tmp 6)⟩,
    ⟨(some 29), none, false, .cnv .i64 (.tmp 28)⟩,
    ⟨(some 30), none, false, .mks 1 8 [.int .i64 0] (.tmp 29) (.tmp 29)⟩,
    ⟨(some 7), none, false, .mov (.tmp 30)⟩]) (.seq (.ops false [
    ⟨(some 31), none, false, .mov (.tmp 7)⟩,
    ⟨(some 32), none, false, .mov (.tmp 0)⟩,
    ⟨(some 33), none, false, .cpy 1 (.tmp 31) (.tmp 32)⟩,
    ⟨(some 8), none, false, .mov (.tmp 33)⟩]) (.seq (.block 0 (.loop (.seq (.seq (.ops false [
    ⟨(some 34), none, false, .mov (.tmp 8)⟩,
    ⟨(some 35), none, false, .mov (.tmp 7)⟩,
    ⟨(some 36), none, false, .len .sl (.tmp 35)⟩,
    ⟨(some 37), none, false, .bin .lss (.tmp 34) (.tmp 36)⟩]) (.cond (.tmp 37) .skip (.exit 0))) (.block 1 (.ops true [
    ⟨(some 38), none, false, .mov (.tmp 8)⟩,
    ⟨(some 39), none, false, .mov (.tmp 7)⟩,
    ⟨(some 40), none, false, .mov (.tmp 8)⟩,
    ⟨(some 41), none, false, .slc (.sl 1) (.tmp 39) (some (.tmp 40)) none none⟩,
    ⟨(some 42), none, false, .mov (.tmp 7)⟩,
    ⟨(some 43), none, false, .mov (.tmp 8)⟩,
    ⟨(some 44), none, false, .slc (.sl 1) (.tmp 42) none (some (.tmp 43)) none⟩,
    ⟨(some 45), none, false, .cpy 1 (.tmp 41) (.tmp 44)⟩,
    ⟨(some 46), none, false, .bin .add (.tmp 38) (.tmp 45)⟩,
    ⟨(some 8), none, false, .mov (.tmp 46)⟩]))))) (.seq (.ops false [
    ⟨(some 47), none, false, .mov (.tmp 7)⟩,
    ⟨(some 4), none, false, .mov (.tmp 47)⟩]) .ret)))))))) }
theorem t42 : tabP Try.prog 0 42 = some ic42 := by kernel_rfl
/-- bandplan/terrain.all[int] -/
def ic43 : IFn := { ntmps := 11, results := [.tmp 6], code := (.seq (.ops false [
    ⟨(some 3), none, false, .box 1 (.tmp 0)⟩,
    ⟨(some 5), none, false, .box 1 (.tmp 2)⟩,
    ⟨(some 6), none, false, .mov (.const (Value.bool false))⟩]) (.seq (.ops false [
    ⟨(some 7), none, false, .mov (.tmp 1)⟩,
    ⟨(some 8), none, false, .fun_ (Fn.func 55) [] [.tmp 3, .tmp 5]⟩,
    ⟨(some 9), none, false, .call (.func 54) [.tmp 7, .tmp 8]⟩,
    ⟨(some 10), none, false, .una .not (.tmp 9)⟩,
    ⟨(some 6), none, false, .mov (.tmp 10)⟩]) .ret)) }
theorem t43 : tabP Try.prog 0 43 = some ic43 := by kernel_rfl
/-- bandplan/terrain.index -/
def ic44 : IFn := { ntmps := 13, results := [.tmp 4], code := (.seq (.ops false [
    ⟨(some 2), none, false, .box 4 (.tmp 0)⟩,
    ⟨(some 3), none, false, .box 2 (.tmp 1)⟩,
    ⟨(some 4), none, false, .mov (.const (Value.int IntKind.i64 0))⟩]) (.seq (.ops false [
    ⟨(some 5), none, false, .fad 1 (.tmp 3)⟩,
    ⟨(some 6), none, false, .ld1 (.tmp 5)⟩,
    ⟨(some 7), none, false, .fad 0 (.tmp 2)⟩,
    ⟨(some 8), none, false, .ld1 (.tmp 7)⟩,
    ⟨(some 9), none, false, .bin .mul (.tmp 6) (.tmp 8)⟩,
    ⟨(some 10), none, false, .fad 0 (.tmp 3)⟩,
    ⟨(some 11), none, false, .ld1 (.tmp 10)⟩,
    ⟨(some 12), none, false, .bin .add (.tmp 9) (.tmp 11)⟩,
    ⟨(some 4), none, false, .mov (.tmp 12)⟩]) .ret)) }
theorem t44 : tabP Try.prog 0 44 = some ic44 := by kernel_rfl
/-- bandplan/terrain.abs -/
def ic45 : IFn := { ntmps := 7, results := [.tmp 2], code := (.seq (.ops false [
    ⟨(some 2), none, false, .mov (.const (Value.int IntKind.i64 0))⟩]) (.seq (.ops false [
    ⟨(some 3), none, false, .mov (.tmp 0)⟩,
    ⟨(some 4), none, false, .mov (.tmp 0)⟩,
    ⟨(some 5), none, false, .una .neg (.tmp 4)⟩,
    ⟨(some 6), none, false, .mnx true [.tmp 3, .tmp 5]⟩,
    ⟨(some 2), none, false, .mov (.tmp 6)⟩]) .ret)) }
theorem t45 : tabP Try.prog 0 45 = some ic45 := by kernel_rfl
/-- bandplan/terrain.round -/
def ic46 : IFn := { ntmps := 27, results := [.tmp 8], code := (.seq (.ops false [
    ⟨(some 8), none, false, .mov (.const (Value.int IntKind.i64 0))⟩]) (.seq (.ops false [
    ⟨(some 9), none, false, .mov (.tmp 0)⟩,
    ⟨(some 10), none, false, .mov (.tmp 1)⟩,
    ⟨(some 11), none, false, .bin .mul (.const (Value.int IntKind.i64 2)) (.tmp 10)⟩,
    ⟨(some 12), none, false, .mov (.tmp 2)⟩,
    ⟨(some 13), none, false, .bin .mul (.tmp 11) (.tmp 12)⟩,
    ⟨(some 14), none, false, .mov (.tmp 3)⟩,
    ⟨(some 15), none, false, .bin .add (.tmp 13) (.tmp 14)⟩,
    ⟨(some 16), none, false, .mov (.tmp 3)⟩,
    ⟨(some 17), none, false, .bin .mul (.const (Value.int IntKind.i64 2)) (.tmp 16)⟩,
    ⟨(some 18), none, false, .mov (.tmp 3)⟩,
    ⟨(some 19), none, false, .bin .mul (.tmp 17) (.tmp 18)⟩,
    ⟨(some 20), none, false, .bin .add (.tmp 15) (.tmp 19)⟩,
    ⟨(some 21), none, false, .mov (.tmp 3)⟩,
    ⟨(some 22), none, false, .bin .mul (.const (Value.int IntKind.i64 2)) (.tmp 21)⟩,
    ⟨(some 23), none, false, .bin .quo (.tmp 20) (.tmp 22)⟩,
    ⟨(some 24), none, false, .bin .add (.tmp 9) (.tmp 23)⟩,
    ⟨(some 25), none, false, .mov (.tmp 3)⟩,
    ⟨(some 26), none, false, .bin .sub (.tmp 24) (.tmp 25)⟩,
    ⟨(some 8), none, false, .mov (.tmp 26)⟩]) .ret)) }
theorem t46 : tabP Try.prog 0 46 = some ic46 := by kernel_rfl
/-- bandplan/bandplanref10.Span -/
def ic47 : IFn := { ntmps := 44, results := [.tmp 4], code := (.seq (.ops false [
    ⟨(some 2), none, false, .box 2 (.tmp 0)⟩,
    ⟨(some 3), none, false, .box 2 (.tmp 1)⟩,
    ⟨(some 4), none, false, .mov (.const (Value.int IntKind.i64 0))⟩]) (.seq (.ops false [
    ⟨(some 8), none, false, .fad 0 (.tmp 3)⟩,
    ⟨(some 9), none, false, .ld1 (.tmp 8)⟩,
    ⟨(some 10), none, false, .fad 0 (.tmp 2)⟩,
    ⟨(some 11), none, false, .ld1 (.tmp 10)⟩,
    ⟨(some 12), none, false, .bin .sub (.tmp 9) (.tmp 11)⟩,
    ⟨(some 13), none, false, .fad 0 (.tmp 2)⟩,
    ⟨(some 14), none, false, .ld1 (.tmp 13)⟩,
    ⟨(some 15), none, false, .fad 0 (.tmp 3)⟩,
    ⟨(some 16), none, false, .ld1 (.tmp 15)⟩,
    ⟨(some 17), none, false, .bin .sub (.tmp 14) (.tmp 16)⟩,
    ⟨(some 18), none, false, .fad 1 (.tmp 3)⟩,
    ⟨(some 19), none, false, .ld1 (.tmp 18)⟩,
    ⟨(some 20), none, false, .fad 1 (.tmp 2)⟩,
    ⟨(some 21), none, false, .ld1 (.tmp 20)⟩,
    ⟨(some 22), none, false, .bin .sub (.tmp 19) (.tmp 21)⟩,
    ⟨(some 23), none, false, .fad 1 (.tmp 2)⟩,
    ⟨(some 24), none, false, .ld1 (.tmp 23)⟩,
    ⟨(some 25), none, false, .fad 1 (.tmp 3)⟩,
    ⟨(some 26), none, false, .ld1 (.tmp 25)⟩,
    ⟨(some 27), none, false, .bin .sub (.tmp 24) (.tmp 26)⟩,
    ⟨(some 28), none, false, .bsl 4 [.int .i64 0, .int .i64 0, .int .i64 0, .int .i64 0] [(0, 1, .tmp 12), (1, 1, .tmp 17), (2, 1, .tmp 22), (3, 1, .tmp 27)]⟩,
    ⟨(some 5), none, false, .mov (.tmp 28)⟩]) (.seq (.ops false [
    ⟨(some 6), none, false, .mov (.const (Value.int IntKind.i64 0))⟩]) (.seq (.seq (.ops false [
    ⟨(some 7), none, false, .mov (.const (Value.int IntKind.i64 0))⟩]) (.block 0 (.loop (.seq (.seq (.ops false [
    ⟨(some 29), none, false, .mov (.tmp 7)⟩,
    ⟨(some 30), none, false, .bin .lss (.tmp 29) (.const (Value.int IntKind.i64 4))⟩]) (.cond (.tmp 30) .skip (.exit 0))) (.seq (.block 1 (.seq (.ops false [
    ⟨(some 33), none, false, .mov (.tmp 5)⟩,
    ⟨(some 34), none, false, .mov (.tmp 7)⟩,
    ⟨(some 35), none, false, .ixs 1 (.tmp 33) (.tmp 34)⟩,
    ⟨(some 36), none, false, .ld1 (.tmp 35)⟩,
    ⟨(some 37), none, false, .mov (.tmp 6)⟩,
    ⟨(some 38), none, false, .bin .gtr (.tmp 36) (.tmp 37)⟩]) (.cond (.tmp 38) (.ops false [
    ⟨(some 39), none, false, .mov (.tmp 5)⟩,
    ⟨(some 40), none, false, .mov (.tmp 7)⟩,
    ⟨(some 41), none, false, .ixs 1 (.tmp 39) (.tmp 40)⟩,
    ⟨(some 42), none, false, .ld1 (.tmp 41)⟩,
    ⟨(some 6), none, false, .mov (.tmp 42)⟩]) .skip))) (.ops false [
    ⟨(some 31), none, false, .mov (.tmp 7)⟩,
    ⟨(some 32), none, false, .bin .add (.tmp 31) (.const (Value.int IntKind.i64 1))⟩,
    ⟨(some 7), none, false, .mov (.tmp 32)⟩])))))) (.seq (.ops false [
    ⟨(some 43), none, false, .mov (.tmp 6)⟩,
    ⟨(some 4), none, false, .mov (.tmp 43)⟩]) .ret))))) }
theorem t47 : tabP Try.prog 0 47 = some ic47 := by kernel_rfl
/-- bandplan/bandplanref10.Floor -/
def ic48 : IFn := { ntmps := 16, results := [.tmp 4], code := (.seq (.ops false [
    ⟨(some 4), none, false, .mov (.const (Value.int IntKind.i64 0))⟩]) (.seq (.ops false [
    ⟨(some 6), none, false, .mov (.tmp 0)⟩,
    ⟨(some 7), none, false, .mov (.tmp 1)⟩,
    ⟨(some 8), none, false, .bin .quo (.tmp 6) (.tmp 7)⟩,
    ⟨(some 5), none, false, .mov (.tmp 8)⟩]) (.seq (.seq (.ops false [
    ⟨(some 9), none, false, .mov (.tmp 0)⟩,
    ⟨(some 10), none, false, .mov (.tmp 1)⟩,
    ⟨(some 11), none, false, .bin .rem (.tmp 9) (.tmp 10)⟩,
    ⟨(some 12), none, false, .bin .lss (.tmp 11) (.const (Value.int IntKind.i64 0))⟩]) (.cond (.tmp 12) (.ops false [
    ⟨(some 13), none, false, .mov (.tmp 5)⟩,
    ⟨(some 14), none, false, .bin .sub (.tmp 13) (.const (Value.int IntKind.i64 1))⟩,
    ⟨(some 5), none, false, .mov (.tmp 14)⟩]) .skip)) (.seq (.ops false [
    ⟨(some 15), none, false, .mov (.tmp 5)⟩,
    ⟨(some 4), none, false, .mov (.tmp 15)⟩]) .ret)))) }
theorem t48 : tabP Try.prog 0 48 = some ic48 := by kernel_rfl
/-- bandplan/bandplanref10.Between -/
def ic49 : IFn := { ntmps := 25, results := [.tmp 6], code := (.seq (.ops false [
    ⟨(some 6), none, false, .mov (.const (Value.bool false))⟩]) (.seq (.ops false [
    ⟨(some 7), none, false, .mov (.tmp 0)⟩,
    ⟨(some 8), none, false, .mov (.tmp 1)⟩,
    ⟨(some 9), none, false, .bin .geq (.tmp 7) (.tmp 8)⟩,
    ⟨(some 10), none, false, .mov (.tmp 9)⟩,
    ⟨(some 11), (some (10, true)), false, .mov (.tmp 0)⟩,
    ⟨(some 12), (some (10, true)), false, .mov (.tmp 2)⟩,
    ⟨(some 13), (some (10, true)), false, .bin .leq (.tmp 11) (.tmp 12)⟩,
    ⟨(some 14), none, false, .pick (.tmp 10) (.tmp 13) (.const (Value.bool false))⟩,
    ⟨(some 15), none, false, .mov (.tmp 14)⟩,
    ⟨(some 16), (some (15, false)), false, .mov (.tmp 0)⟩,
    ⟨(some 17), (some (15, false)), false, .mov (.tmp 2)⟩,
    ⟨(some 18), (some (15, false)), false, .bin .geq (.tmp 16) (.tmp 17)⟩,
    ⟨(some 19), (some (15, false)), false, .mov (.tmp 18)⟩,
    ⟨(some 20), (some (19, true)), false, .mov (.tmp 0)⟩,
    ⟨(some 21), (some (19, true)), false, .mov (.tmp 1)⟩,
    ⟨(some 22), (some (19, true)), false, .bin .leq (.tmp 20) (.tmp 21)⟩,
    ⟨(some 23), (some (15, false)), false, .pick (.tmp 19) (.tmp 22) (.const (Value.bool false))⟩,
    ⟨(some 24), none, false, .pick (.tmp 15) (.const (Value.bool true)) (.tmp 23)⟩,
    ⟨(some 6), none, false, .mov (.tmp 24)⟩]) .ret)) }
theorem t49 : tabP Try.prog 0 49 = some ic49 := by kernel_rfl
/-- bandplan/terrain.Equal$1 -/
def ic50 : IFn := { ntmps := 8, results := [.agg 2 2], code := (.seq (.ops false [
    ⟨(some 1), none, false, .box 4 (.tmp 0)⟩,
    ⟨(some 2), none, false, .new [.int .i64 0, .int .i64 0]⟩]) (.seq (.ops false [
    ⟨(some 3), none, false, .fad 0 (.tmp 1)⟩,
    ⟨(some 4), none, false, .ld1 (.tmp 3)⟩,
    ⟨(some 5), none, false, .fad 1 (.tmp 1)⟩,
    ⟨(some 6), none, false, .ld1 (.tmp 5)⟩,
    ⟨(some 7), none, false, .bld [.int .i64 0, .int .i64 0] [(0, 1, .tmp 4), (1, 1, .tmp 6)]⟩,
    ⟨none, none, false, .sto 2 (.tmp 2) (.tmp 7)⟩]) .ret)) }
theorem t50 : tabP Try.prog 0 50 = some ic50 := by kernel_rfl
/-- slices.Equal[[]int,int] -/
def ic51 : IFn := { ntmps := 26, results := [.tmp 4], code := (.seq (.ops false [
    ⟨(some 4), none, false, .mov (.const (Value.bool false))⟩]) (.seq (.seq (.ops false [
    ⟨(some 6), none, false, .mov (.tmp 0)⟩,
    ⟨(some 7), none, false, .len .sl (.tmp 6)⟩,
    ⟨(some 8), none, false, .mov (.tmp 1)⟩,
    ⟨(some 9), none, false, .len .sl (.tmp 8)⟩,
    ⟨(some 10), none, false, .bin .neq (.tmp 7) (.tmp 9)⟩]) (.cond (.tmp 10) (.seq (.ops false [
    ⟨(some 4), none, false, .mov (.const (Value.bool false))⟩]) .ret) .skip)) (.seq (.seq (.ops false [
    ⟨(some 11), none, false, .mov (.tmp 0)⟩,
    ⟨(some 12), none, false, .len .sl (.tmp 11)⟩,
    ⟨(some 13), none, false, .mov (.const (Value.int IntKind.i64 0))⟩]) (.block 0 (.loop (.seq (.ops false [
    ⟨(some 14), none, false, .bin .lss (.tmp 13) (.tmp 12)⟩]) (.seq (.cond (.tmp 14) .skip (.exit 0)) (.seq (.block 1 (.seq (.ops false [
    ⟨(some 15), none, false, .mov (.tmp 13)⟩,
    ⟨(some 5), none, false, .mov (.tmp 15)⟩]) (.seq (.ops true [
    ⟨(some 16), none, false, .mov (.tmp 0)⟩,
    ⟨(some 17), none, false, .mov (.tmp 5)⟩,
    ⟨(some 18), none, false, .ixs 1 (.tmp 16) (.tmp 17)⟩,
    ⟨(some 19), none, false, .ld1 (.tmp 18)⟩,
    ⟨(some 20), none, false, .mov (.tmp 1)⟩,
    ⟨(some 21), none, false, .mov (.tmp 5)⟩,
    ⟨(some 22), none, false, .ixs 1 (.tmp 20) (.tmp 21)⟩,
    ⟨(some 23), none, false, .ld1 (.tmp 22)⟩,
    ⟨(some 24), none, false, .bin .neq (.tmp 19) (.tmp 23)⟩]) (.cond (.tmp 24) (.seq (.ops false [
    ⟨(some 4), none, false, .mov (.const (Value.bool false))⟩]) .ret) .skip)))) (.ops false [
    ⟨(some 25), none, false, .bin .add (.tmp 13) (.const (Value.int IntKind.i64 1))⟩,
    ⟨(some 13), none, false, .mov (.tmp 25)⟩]))))))) (.seq (.ops false [
    ⟨(some 4), none, false, .mov (.const (Value.bool true))⟩]) .ret)))) }
theorem t51 : tabP Try.prog 0 51 = some ic51 := by kernel_rfl
/-- slices.Clone[[]int,int] -/
def ic52 : IFn := { ntmps := 8, results := [.tmp 2], code := (.seq (.ops false [
    ⟨(some 2), none, false, .mov (.const (Value.slice none 0 0))⟩]) (.seq (.seq (.ops false [
    ⟨(some 3), none, false, .mov (.tmp 0)⟩,
    ⟨(some 4), none, false, .eq .sli false (.tmp 3) (.const (Value.slice none 0 0))⟩]) (.cond (.tmp 4) (.seq (.ops false [
    ⟨(some 2), none, false, .mov (.const (Value.slice none 0 0))⟩]) .ret) .skip)) (.seq (.ops false [
    ⟨(some 5), none, false, .bsl 0 [] []⟩,
    ⟨(some 6), none, false, .mov (.tmp 0)⟩,
    ⟨(some 7), none, false, .app 1 8 (.tmp 5) (.tmp 6)⟩,
    ⟨(some 2), none, false, .mov (.tmp 7)⟩]) .ret))) }
theorem t52 : tabP Try.prog 0 52 = some ic52 := by kernel_rfl
/-- math/bits.Mul -/
def ic53 : IFn := { ntmps := 30, results := [.tmp 4, .tmp 5], code := (.seq (.ops false [
    ⟨(some 4), none, false, .mov (.const (Value.int IntKind.u64 0))⟩,
    ⟨(some 5), none, false, .mov (.const (Value.int IntKind.u64 0))⟩]) (.seq (.cond (.const (Value.bool false)) (.seq (.ops false [
    ⟨(some 11), none, false, .mov (.tmp 0)⟩,
    ⟨(some 12), none, false, .cnv .u32 (.tmp 11)⟩,
    ⟨(some 13), none, false, .mov (.tmp 1)⟩,
    ⟨(some 14), none, false, .cnv .u32 (.tmp 13)⟩,
    ⟨(some 15), none, false, .call (.func 56) [.tmp 12, .tmp 14]⟩,
    ⟨(some 10), none, false, .mov (.tmp 15)⟩,
    ⟨(some 16), none, false, .ext (.tmp 10) 0⟩,
    ⟨(some 17), none, false, .ext (.tmp 10) 1⟩,
    ⟨(some 6), none, false, .mov (.tmp 16)⟩,
    ⟨(some 7), none, false, .mov (.tmp 17)⟩]) (.seq (.ops false [
    ⟨(some 18), none, false, .mov (.tmp 6)⟩,
    ⟨(some 19), none, false, .cnv .u64 (.tmp 18)⟩,
    ⟨(some 20), none, false, .mov (.tmp 7)⟩,
    ⟨(some 21), none, false, .cnv .u64 (.tmp 20)⟩,
    ⟨(some 4), none, false, .mov (.tmp 19)⟩,
    ⟨(some 5), none, false, .mov (.tmp 21)⟩]) .ret)) .skip) (.seq (.ops false [
    ⟨(some 23), none, false, .mov (.tmp 0)⟩,
    ⟨(some 24), none, false, .mov (.tmp 1)⟩,
    ⟨(some 25), none, false, .call (.func 57) [.tmp 23, .tmp 24]⟩,
    ⟨(some 22), none, false, .mov (.tmp 25)⟩,
    ⟨(some 26), none, false, .ext (.tmp 22) 0⟩,
    ⟨(some 27), none, false, .ext (.tmp 22) 1⟩,
    ⟨(some 8), none, false, .mov (.tmp 26)⟩,
    ⟨(some 9), none, false, .mov (.tmp 27)⟩]) (.seq (.ops false [
    ⟨(some 28), none, false, .mov (.tmp 8)⟩,
    ⟨(some 29), none, false, .mov (.tmp 9)⟩,
    ⟨(some 4), none, false, .mov (.tmp 28)⟩,
    ⟨(some 5), none, false, .mov (.tmp 29)⟩]) .ret)))) }
theorem t53 : tabP Try.prog 0 53 = some ic53 := by kernel_rfl
/-- slices.ContainsFunc[[]int,int] -/
def ic54 : IFn := { ntmps := 9, results := [.tmp 4], code := (.seq (.ops false [
    ⟨(some 4), none, false, .mov (.const (Value.bool false))⟩]) (.seq (.ops false [
    ⟨(some 5), none, false, .mov (.tmp 0)⟩,
    ⟨(some 6), none, false, .mov (.tmp 1)⟩,
    ⟨(some 7), none, false, .call (.func 58) [.tmp 5, .tmp 6]⟩,
    ⟨(some 8), none, false, .bin .geq (.tmp 7) (.const (Value.int IntKind.i64 0))⟩,
    ⟨(some 4), none, false, .mov (.tmp 8)⟩]) .ret)) }
theorem t54 : tabP Try.prog 0 54 = some ic54 := by kernel_rfl
/-- bandplan/terrain.all[int]$1 -/
def ic55 : IFn := { ntmps := 10, results := [.tmp 4], code := (.seq (.ops false [
    ⟨(some 4), none, false, .mov (.const (Value.bool false))⟩]) (.seq (.ops false [
    ⟨(some 5), none, false, .ld1 (.tmp 1)⟩,
    ⟨(some 6), none, false, .mov (.tmp 0)⟩,
    ⟨(some 7), none, false, .ld1 (.tmp 2)⟩,
    ⟨(some 8), none, false, .call (.func 41) [.tmp 5, .tmp 6, .tmp 7]⟩,
    ⟨(some 9), none, false, .una .not (.tmp 8)⟩,
    ⟨(some 4), none, false, .mov (.tmp 9)⟩]) .ret)) }
theorem t55 : tabP Try.prog 0 55 = some ic55 := by kernel_rfl
/-- math/bits.Mul32 -/
def ic56 : IFn := { ntmps := 17, results := [.tmp 4, .tmp 5], code := (.seq (.ops false [
    ⟨(some 4), none, false, .mov (.const (Value.int IntKind.u32 0))⟩,
    ⟨(some 5), none, false, .mov (.const (Value.int IntKind.u32 0))⟩]) (.seq (.ops false [
    ⟨(some 7), none, false, .mov (.tmp 0)⟩,
    ⟨(some 8), none, false, .cnv .u64 (.tmp 7)⟩,
    ⟨(some 9), none, false, .mov (.tmp 1)⟩,
    ⟨(some 10), none, false, .cnv .u64 (.tmp 9)⟩,
    ⟨(some 11), none, false, .bin .mul (.tmp 8) (.tmp 10)⟩,
    ⟨(some 6), none, false, .mov (.tmp 11)⟩]) (.seq (.ops false [
    ⟨(some 12), none, false, .mov (.tmp 6)⟩,
    ⟨(some 13), none, false, .bin .shr (.tmp 12) (.const (Value.int IntKind.u64 32))⟩,
    ⟨(some 14), none, false, .cnv .u32 (.tmp 13)⟩,
    ⟨(some 15), none, false, .mov (.tmp 6)⟩,
    ⟨(some 16), none, false, .cnv .u32 (.tmp 15)⟩,
    ⟨(some 4), none, false, .mov (.tmp 14)⟩,
    ⟨(some 5), none, false, .mov (.tmp 16)⟩]) .ret))) }
theorem t56 : tabP Try.prog 0 56 = some ic56 := by kernel_rfl
/-- math/bits.Mul64 -/
def ic57 : IFn := { ntmps := 51, results := [.tmp 4, .tmp 5], code := (.seq (.ops false [
    ⟨(some 4), none, false, .mov (.const (Value.int IntKind.u64 0))⟩,
    ⟨(some 5), none, false, .mov (.const (Value.int IntKind.u64 0))⟩]) (.seq (.ops false [
    ⟨(some 14), none, false, .mov (.tmp 0)⟩,
    ⟨(some 15), none, false, .bin .and (.tmp 14) (.const (Value.int IntKind.u64 4294967295))⟩,
    ⟨(some 6), none, false, .mov (.tmp 15)⟩]) (.seq (.ops false [
    ⟨(some 16), none, false, .mov (.tmp 0)⟩,
    ⟨(some 17), none, false, .bin .shr (.tmp 16) (.const (Value.int IntKind.u64 32))⟩,
    ⟨(some 7), none, false, .mov (.tmp 17)⟩]) (.seq (.ops false [
    ⟨(some 18), none, false, .mov (.tmp 1)⟩,
    ⟨(some 19), none, false, .bin .and (.tmp 18) (.const (Value.int IntKind.u64 4294967295))⟩,
    ⟨(some 8), none, false, .mov (.tmp 19)⟩]) (.seq (.ops false [
    ⟨(some 20), none, false, .mov (.tmp 1)⟩,
    ⟨(some 21), none, false, .bin .shr (.tmp 20) (.const (Value.int IntKind.u64 32))⟩,
    ⟨(some 9), none, false, .mov (.tmp 21)⟩]) (.seq (.ops false [
    ⟨(some 22), none, false, .mov (.tmp 6)⟩,
    ⟨(some 23), none, false, .mov (.tmp 8)⟩,
    ⟨(some 24), none, false, .bin .mul (.tmp 22) (.tmp 23)⟩,
    ⟨(some 10), none, false, .mov (.tmp 24)⟩]) (.seq (.ops false [
    ⟨(some 25), none, false, .mov (.tmp 7)⟩,
    ⟨(some 26), none, false, .mov (.tmp 8)⟩,
    ⟨(some 27), none, false, .bin .mul (.tmp 25) (.tmp 26)⟩,
    ⟨(some 28), none, false, .mov (.tmp 10)⟩,
    ⟨(some 29), none, false, .bin .shr (.tmp 28) (.const (Value.int IntKind.u64 32))⟩,
    ⟨(some 30), none, false, .bin .add (.tmp 27) (.tmp 29)⟩,
    ⟨(some 11), none, false, .mov (.tmp 30)⟩]) (.seq (.ops false [
    ⟨(some 31), none, false, .mov (.tmp 11)⟩,
    ⟨(some 32), none, false, .bin .and (.tmp 31) (.const (Value.int IntKind.u64 4294967295))⟩,
    ⟨(some 12), none, false, .mov (.tmp 32)⟩]) (.seq (.ops false [
    ⟨(some 33), none, false, .mov (.tmp 11)⟩,
    ⟨(some 34), none, false, .bin .shr (.tmp 33) (.const (Value.int IntKind.u64 32))⟩,
    ⟨(some 13), none, false, .mov (.tmp 34)⟩]) (.seq (.ops false [
    ⟨(some 35), none, false, .mov (.tmp 12)⟩,
    ⟨(some 36), none, false, .mov (.tmp 6)⟩,
    ⟨(some 37), none, false, .mov (.tmp 9)⟩,
    ⟨(some 38), none, false, .bin .mul (.tmp 36) (.tmp 37)⟩,
    ⟨(some 39), none, false, .bin .add (.tmp 35) (.tmp 38)⟩,
    ⟨(some 12), none, false, .mov (.tmp 39)⟩]) (.seq (.ops false [
    ⟨(some 40), none, false, .mov (.tmp 7)⟩,
    ⟨(some 41), none, false, .mov (.tmp 9)⟩,
    ⟨(some 42), none, false, .bin .mul (.tmp 40) (.tmp 41)⟩,
    ⟨(some 43), none, false, .mov (.tmp 13)⟩,
    ⟨(some 44), none, false, .bin .add (.tmp 42) (.tmp 43)⟩,
    ⟨(some 45), none, false, .mov (.tmp 12)⟩,
    ⟨(some 46), none, false, .bin .shr (.tmp 45) (.const (Value.int IntKind.u64 32))⟩,
    ⟨(some 47), none, false, .bin .add (.tmp 44) (.tmp 46)⟩,
    ⟨(some 4), none, false, .mov (.tmp 47)⟩]) (.seq (.ops false [
    ⟨(some 48), none, false, .mov (.tmp 0)⟩,
    ⟨(some 49), none, false, .mov (.tmp 1)⟩,
    ⟨(some 50), none, false, .bin .mul (.tmp 48) (.tmp 49)⟩,
    ⟨(some 5), none, false, .mov (.tmp 50)⟩]) .ret)))))))))))) }
theorem t57 : tabP Try.prog 0 57 = some ic57 := by kernel_rfl
/-- slices.IndexFunc[[]int,int] -/
def ic58 : IFn := { ntmps := 19, results := [.tmp 4], code := (.seq (.ops false [
    ⟨(some 4), none, false, .mov (.const (Value.int IntKind.i64 0))⟩]) (.seq (.seq (.ops false [
    ⟨(some 6), none, false, .mov (.tmp 0)⟩,
    ⟨(some 7), none, false, .len .sl (.tmp 6)⟩,
    ⟨(some 8), none, false, .mov (.const (Value.int IntKind.i64 0))⟩]) (.block 0 (.loop (.seq (.ops false [
    ⟨(some 9), none, false, .bin .lss (.tmp 8) (.tmp 7)⟩]) (.seq (.cond (.tmp 9) .skip (.exit 0)) (.seq (.block 1 (.seq (.ops false [
    ⟨(some 10), none, false, .mov (.tmp 8)⟩,
    ⟨(some 5), none, false, .mov (.tmp 10)⟩]) (.seq (.ops false [
    ⟨(some 11), none, false, .mov (.tmp 1)⟩,
    ⟨(some 12), none, false, .mov (.tmp 0)⟩,
    ⟨(some 13), none, false, .mov (.tmp 5)⟩,
    ⟨(some 14), none, false, .ixs 1 (.tmp 12) (.tmp 13)⟩,
    ⟨(some 15), none, false, .ld1 (.tmp 14)⟩,
    ⟨(some 16), none, false, .call (.tmp 11) [.tmp 15]⟩]) (.cond (.tmp 16) (.seq (.ops false [
    ⟨(some 17), none, false, .mov (.tmp 5)⟩,
    ⟨(some 4), none, false, .mov (.tmp 17)⟩]) .ret) .skip)))) (.ops false [
    ⟨(some 18), none, false, .bin .add (.tmp 8) (.const (Value.int IntKind.i64 1))⟩,
    ⟨(some 8), none, false, .mov (.tmp 18)⟩]))))))) (.seq (.ops false [
    ⟨(some 4), none, false, .mov (.const (Value.int IntKind.i64 (-1)))⟩]) .ret))) }
theorem t58 : tabP Try.prog 0 58 = some ic58 := by kernel_rfl
def full : FuncId → Option IFn
  | 3 => some ic3
  | 4 => some ic4
  | 5 => some ic5
  | 6 => some ic6
  | 7 => some ic7
  | 8 => some ic8
  | 9 => some ic9
  | 10 => some ic10
  | 11 => some ic11
  | 12 => some ic12
  | 13 => some ic13
  | 14 => some ic14
  | 15 => some ic15
  | 16 => some ic16
  | 17 => some ic17
  | 18 => some ic18
  | 19 => some ic19
  | 20 => some ic20
  | 21 => some ic21
  | 22 => some ic22
  | 23 => some ic23
  | 24 => some ic24
  | 25 => some ic25
  | 26 => some ic26
  | 27 => some ic27
  | 28 => some ic28
  | 29 => some ic29
  | 30 => some ic30
  | 31 => some ic31
  | 32 => some ic32
  | 33 => some ic33
  | 34 => some ic34
  | 35 => some ic35
  | 36 => some ic36
  | 37 => some ic37
  | 38 => some ic38
  | 39 => some ic39
  | 40 => some ic40
  | 41 => some ic41
  | 42 => some ic42
  | 43 => some ic43
  | 44 => some ic44
  | 45 => some ic45
  | 46 => some ic46
  | 47 => some ic47
  | 48 => some ic48
  | 49 => some ic49
  | 50 => some ic50
  | 51 => some ic51
  | 52 => some ic52
  | 53 => some ic53
  | 54 => some ic54
  | 55 => some ic55
  | 56 => some ic56
  | 57 => some ic57
  | 58 => some ic58
  | _ => none
def itab : FuncId → Option IFn
  | 3 => some ic3
  | 4 => some ic4
  | 5 => some ic5
  | 6 => some ic6
  | 7 => some ic7
  | 8 => some ic8
  | 9 => some ic9
  | 10 => some ic10
  | 11 => some ic11
  | 12 => some ic12
  | 14 => some ic14
  | 15 => some ic15
  | 16 => some ic16
  | 17 => some ic17
  | 18 => some ic18
  | 19 => some ic19
  | 20 => some ic20
  | 21 => some ic21
  | 22 => some ic22
  | 23 => some ic23
  | 24 => some ic24
  | 25 => some ic25
  | 26 => some ic26
  | 27 => some ic27
  | 28 => some ic28
  | 29 => some ic29
  | 30 => some ic30
  | 31 => some ic31
  | 32 => some ic32
  | 33 => some ic33
  | 34 => some ic34
  | 35 => some ic35
  | 36 => some ic36
  | 37 => some ic37
  | 38 => some ic38
  | 39 => some ic39
  | 40 => some ic40
  | 41 => some ic41
  | 42 => some ic42
  | 43 => some ic43
  | 44 => some ic44
  | 45 => some ic45
  | 46 => some ic46
  | 47 => some ic47
  | 48 => some ic48
  | 49 => some ic49
  | 50 => some ic50
  | 51 => some ic51
  | 52 => some ic52
  | 53 => some ic53
  | 54 => some ic54
  | 55 => some ic55
  | 56 => some ic56
  | 57 => some ic57
  | 58 => some ic58
  | _ => none
theorem fullOk (F : FuncId) (fn : IFn) (h : full F = some fn) : tabP Try.prog 0 F = some fn := by
  unfold full at h
  split at h
  · rw [← h]; exact t3
  · rw [← h]; exact t4
  · rw [← h]; exact t5
  · rw [← h]; exact t6
  · rw [← h]; exact t7
  · rw [← h]; exact t8
  · rw [← h]; exact t9
  · rw [← h]; exact t10
  · rw [← h]; exact t11
  · rw [← h]; exact t12
  · rw [← h]; exact t13
  · rw [← h]; exact t14
  · rw [← h]; exact t15
  · rw [← h]; exact t16
  · rw [← h]; exact t17
  · rw [← h]; exact t18
  · rw [← h]; exact t19
  · rw [← h]; exact t20
  · rw [← h]; exact t21
  · rw [← h]; exact t22
  · rw [← h]; exact t23
  · rw [← h]; exact t24
  · rw [← h]; exact t25
  · rw [← h]; exact t26
  · rw [← h]; exact t27
  · rw [← h]; exact t28
  · rw [← h]; exact t29
  · rw [← h]; exact t30
  · rw [← h]; exact t31
  · rw [← h]; exact t32
  · rw [← h]; exact t33
  · rw [← h]; exact t34
  · rw [← h]; exact t35
  · rw [← h]; exact t36
  · rw [← h]; exact t37
  · rw [← h]; exact t38
  · rw [← h]; exact t39
  · rw [← h]; exact t40
  · rw [← h]; exact t41
  · rw [← h]; exact t42
  · rw [← h]; exact t43
  · rw [← h]; exact t44
  · rw [← h]; exact t45
  · rw [← h]; exact t46
  · rw [← h]; exact t47
  · rw [← h]; exact t48
  · rw [← h]; exact t49
  · rw [← h]; exact t50
  · rw [← h]; exact t51
  · rw [← h]; exact t52
  · rw [← h]; exact t53
  · rw [← h]; exact t54
  · rw [← h]; exact t55
  · rw [← h]; exact t56
  · rw [← h]; exact t57
  · rw [← h]; exact t58
  · cases h
theorem itabOk (F : FuncId) (fn : IFn) (h : itab F = some fn) : tabP Try.prog 0 F = some fn := by
  unfold itab at h
  split at h
  · rw [← h]; exact t3
  · rw [← h]; exact t4
  · rw [← h]; exact t5
  · rw [← h]; exact t6
  · rw [← h]; exact t7
  · rw [← h]; exact t8
  · rw [← h]; exact t9
  · rw [← h]; exact t10
  · rw [← h]; exact t11
  · rw [← h]; exact t12
  · rw [← h]; exact t14
  · rw [← h]; exact t15
  · rw [← h]; exact t16
  · rw [← h]; exact t17
  · rw [← h]; exact t18
  · rw [← h]; exact t19
  · rw [← h]; exact t20
  · rw [← h]; exact t21
  · rw [← h]; exact t22
  · rw [← h]; exact t23
  · rw [← h]; exact t24
  · rw [← h]; exact t25
  · rw [← h]; exact t26
  · rw [← h]; exact t27
  · rw [← h]; exact t28
  · rw [← h]; exact t29
  · rw [← h]; exact t30
  · rw [← h]; exact t31
  · rw [← h]; exact t32
  · rw [← h]; exact t33
  · rw [← h]; exact t34
  · rw [← h]; exact t35
  · rw [← h]; exact t36
  · rw [← h]; exact t37
  · rw [← h]; exact t38
  · rw [← h]; exact t39
  · rw [← h]; exact t40
  · rw [← h]; exact t41
  · rw [← h]; exact t42
  · rw [← h]; exact t43
  · rw [← h]; exact t44
  · rw [← h]; exact t45
  · rw [← h]; exact t46
  · rw [← h]; exact t47
  · rw [← h]; exact t48
  · rw [← h]; exact t49
  · rw [← h]; exact t50
  · rw [← h]; exact t51
  · rw [← h]; exact t52
  · rw [← h]; exact t53
  · rw [← h]; exact t54
  · rw [← h]; exact t55
  · rw [← h]; exact t56
  · rw [← h]; exact t57
  · rw [← h]; exact t58
  · cases h
theorem mixed : Try.prog.follows .mixedOrders = true := by kernel_rfl
end Go.Proofs.Ythlhcdldighffaa.Tab
