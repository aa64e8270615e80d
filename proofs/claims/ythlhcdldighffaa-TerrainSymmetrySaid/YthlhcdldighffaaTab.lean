/- The same functions with their variables in registers; and the proof that the check takes them. -/
import Derived.Test.YthlhcdldighffaaTab0
import Derived.KernelRfl
namespace Go.Proofs.Ythlhcdldighffaa.Tab
open Go Go.IM
set_option maxRecDepth 100000
/-- bandplan/bandplanlaw10.TerrainFlat, with registers -/
def ip3 : IFn := { ntmps := 77, results := [.tmp 8], code := (.seq (.ops false [
⟨some 9, none, false, .mov (.const undef)⟩,
⟨some 8, none, false, .mov (.const (.bool false))⟩]) (.seq (.ops false [
⟨some 12, none, false, .mov (.tmp 0)⟩,
⟨some 13, none, false, .mov (.tmp 1)⟩,
⟨some 14, none, false, .mov (.tmp 2)⟩,
⟨some 15, none, false, .mov (.tmp 3)⟩,
⟨some 16, none, false, .call (.func 11) [.tmp 12, .tmp 13, .tmp 14, .tmp 15]⟩,
⟨some 11, none, false, .mov (.tmp 16)⟩,
⟨some 17, none, false, .ext (.tmp 11) 0⟩,
⟨some 18, none, false, .ext (.tmp 11) 1⟩,
⟨some 9, none, false, .reg [.int .i64 0, .int .i64 0, .slice none 0 0, .slice none 0 0]⟩,
⟨some 9, none, false, .upd 0 4 (.tmp 9) (.tmp 17)⟩,
⟨some 10, none, false, .mov (.tmp 18)⟩]) (.seq (.seq (.ops false [
⟨some 19, none, false, .mov (.tmp 0)⟩,
⟨some 20, none, false, .bin .lss (.tmp 19) (.const (.int .i64 1))⟩,
⟨some 21, none, false, .mov (.tmp 20)⟩,
⟨some 22, some (21, false), false, .mov (.tmp 0)⟩,
⟨some 23, some (21, false), false, .bin .gtr (.tmp 22) (.const (.int .i64 64))⟩,
⟨some 24, none, false, .pick (.tmp 21) (.const (.bool true)) (.tmp 23)⟩,
⟨some 25, none, false, .mov (.tmp 24)⟩,
⟨some 26, some (25, false), false, .mov (.tmp 1)⟩,
⟨some 27, some (25, false), false, .bin .lss (.tmp 26) (.const (.int .i64 1))⟩,
⟨some 28, none, false, .pick (.tmp 25) (.const (.bool true)) (.tmp 27)⟩,
⟨some 29, none, false, .mov (.tmp 28)⟩,
⟨some 30, some (29, false), false, .mov (.tmp 1)⟩,
⟨some 31, some (29, false), false, .bin .gtr (.tmp 30) (.const (.int .i64 64))⟩,
⟨some 32, none, false, .pick (.tmp 29) (.const (.bool true)) (.tmp 31)⟩,
⟨some 33, none, false, .mov (.tmp 32)⟩,
⟨some 34, some (33, false), false, .mov (.tmp 2)⟩,
⟨some 35, some (33, false), false, .bin .lss (.tmp 34) (.const (.int .i64 0))⟩,
⟨some 36, none, false, .pick (.tmp 33) (.const (.bool true)) (.tmp 35)⟩,
⟨some 37, none, false, .mov (.tmp 36)⟩,
⟨some 38, some (37, false), false, .mov (.tmp 2)⟩,
⟨some 39, some (37, false), false, .bin .gtr (.tmp 38) (.const (.int .i64 9000))⟩,
⟨some 40, none, false, .pick (.tmp 37) (.const (.bool true)) (.tmp 39)⟩,
⟨some 41, none, false, .mov (.tmp 40)⟩,
⟨some 42, some (41, false), false, .mov (.tmp 3)⟩,
⟨some 43, some (41, false), false, .bin .lss (.tmp 42) (.const (.int .i64 0))⟩,
⟨some 44, none, false, .pick (.tmp 41) (.const (.bool true)) (.tmp 43)⟩,
⟨some 45, none, false, .mov (.tmp 44)⟩,
⟨some 46, some (45, false), false, .mov (.tmp 3)⟩,
⟨some 47, some (45, false), false, .bin .gtr (.tmp 46) (.const (.int .i64 1000000))⟩,
⟨some 48, none, false, .pick (.tmp 45) (.const (.bool true)) (.tmp 47)⟩]) (.cond (.tmp 48) (.seq (.ops false [
⟨some 49, none, false, .fld 0 (some 4) (.tmp 9)⟩,
⟨some 50, none, false, .bld [.int .i64 0, .int .i64 0, .slice none 0 0, .slice none 0 0] []⟩,
⟨some 51, none, false, .call (.func 12) [.tmp 49, .tmp 50]⟩,
⟨some 52, none, false, .mov (.tmp 51)⟩,
⟨some 53, some (52, true), false, .mov (.tmp 10)⟩,
⟨some 54, some (52, true), false, .bin .eql (.tmp 53) (.const (.int .i64 2))⟩,
⟨some 55, none, false, .pick (.tmp 52) (.tmp 54) (.const (.bool false))⟩,
⟨some 56, none, false, .mov (.tmp 55)⟩,
⟨some 57, some (56, true), false, .call (.func 13) []⟩,
⟨some 58, none, false, .pick (.tmp 56) (.tmp 57) (.const (.bool false))⟩,
⟨some 8, none, false, .mov (.tmp 58)⟩]) .ret) .skip)) (.seq (.ops true [
⟨some 59, none, false, .mov (.tmp 10)⟩,
⟨some 60, none, false, .bin .eql (.tmp 59) (.const (.int .i64 0))⟩,
⟨some 61, none, false, .mov (.tmp 60)⟩,
⟨some 62, some (61, true), false, .fld 0 (some 4) (.tmp 9)⟩,
⟨some 63, some (61, true), false, .mov (.tmp 0)⟩,
⟨some 64, some (61, true), false, .mov (.tmp 1)⟩,
⟨some 65, some (61, true), false, .mov (.tmp 2)⟩,
⟨some 66, some (61, true), false, .mov (.tmp 3)⟩,
⟨some 67, some (61, true), true, .call (.func 14) [.tmp 63, .tmp 64, .tmp 65, .tmp 66]⟩,
⟨some 68, some (61, true), false, .call (.func 12) [.tmp 62, .tmp 67]⟩,
⟨some 69, none, false, .pick (.tmp 61) (.tmp 68) (.const (.bool false))⟩,
⟨some 70, none, false, .mov (.tmp 69)⟩,
⟨some 71, some (70, true), false, .fld 0 (some 4) (.tmp 9)⟩,
⟨some 72, some (70, true), false, .call (.func 15) [.tmp 71]⟩,
⟨some 73, none, false, .pick (.tmp 70) (.tmp 72) (.const (.bool false))⟩,
⟨some 74, none, false, .mov (.tmp 73)⟩,
⟨some 75, some (74, true), false, .call (.func 13) []⟩,
⟨some 76, none, false, .pick (.tmp 74) (.tmp 75) (.const (.bool false))⟩,
⟨some 8, none, false, .mov (.tmp 76)⟩]) .ret)))) }
theorem pr3 : promFn 0 ⟨77, [9], []⟩ ic3 = some ip3 := by kernel_rfl
/-- bandplan/bandplanlaw10.TerrainSets, with registers -/
def ip4 : IFn := { ntmps := 117, results := [.tmp 8], code := (.seq (.ops false [
⟨some 4, none, false, .mov (.const undef)⟩,
⟨some 5, none, false, .mov (.const undef)⟩,
⟨some 9, none, false, .mov (.const undef)⟩,
⟨some 10, none, false, .mov (.const undef)⟩,
⟨some 4, none, false, .regb 4 (.tmp 0)⟩,
⟨some 5, none, false, .regb 2 (.tmp 1)⟩,
⟨some 8, none, false, .mov (.const (.bool false))⟩]) (.seq (.seq (.ops false [
⟨some 13, none, false, .fld 0 (some 4) (.tmp 4)⟩,
⟨some 14, none, false, .call (.func 16) [.tmp 13]⟩]) (.cond (.tmp 14) (.seq (.ops false [
⟨some 15, none, false, .call (.func 13) []⟩,
⟨some 8, none, false, .mov (.tmp 15)⟩]) .ret) .skip)) (.seq (.ops true [
⟨some 16, none, false, .fld 0 (some 0) (.tmp 4)⟩,
⟨some 17, none, false, .fld 0 none (.tmp 4)⟩,
⟨some 18, none, false, .fld 0 (some 0) (.tmp 4)⟩,
⟨some 19, none, false, .fld 1 none (.tmp 4)⟩,
⟨some 20, none, false, .bsl 0 [] []⟩,
⟨some 21, none, false, .fld 0 (some 0) (.tmp 4)⟩,
⟨some 22, none, false, .fld 2 none (.tmp 4)⟩,
⟨some 23, none, true, .app 1 8 (.tmp 20) (.tmp 22)⟩,
⟨some 24, none, false, .bsl 0 [] []⟩,
⟨some 25, none, false, .fld 0 (some 0) (.tmp 4)⟩,
⟨some 26, none, false, .fld 3 none (.tmp 4)⟩,
⟨some 27, none, true, .app 1 8 (.tmp 24) (.tmp 26)⟩,
⟨some 28, none, false, .bld [.int .i64 0, .int .i64 0, .slice none 0 0, .slice none 0 0] [(0, 1, .tmp 17), (1, 1, .tmp 19), (2, 1, .tmp 23), (3, 1, .tmp 27)]⟩,
⟨some 9, none, false, .reg [.int .i64 0, .int .i64 0, .slice none 0 0, .slice none 0 0]⟩,
⟨some 9, none, false, .upd 0 4 (.tmp 9) (.tmp 28)⟩]) (.seq (.ops false [
⟨some 30, none, false, .fld 0 (some 4) (.tmp 4)⟩,
⟨some 31, none, false, .fld 0 (some 2) (.tmp 5)⟩,
⟨some 32, none, false, .mov (.tmp 2)⟩,
⟨some 33, none, false, .mov (.tmp 3)⟩,
⟨some 34, none, false, .call (.func 17) [.tmp 30, .tmp 31, .tmp 32, .tmp 33]⟩,
⟨some 29, none, false, .mov (.tmp 34)⟩,
⟨some 35, none, false, .ext (.tmp 29) 0⟩,
⟨some 36, none, false, .ext (.tmp 29) 1⟩,
⟨some 10, none, false, .reg [.int .i64 0, .int .i64 0, .slice none 0 0, .slice none 0 0]⟩,
⟨some 10, none, false, .upd 0 4 (.tmp 10) (.tmp 35)⟩,
⟨some 11, none, false, .mov (.tmp 36)⟩]) (.seq (.seq (.ops false [
⟨some 37, none, false, .fld 0 (some 4) (.tmp 4)⟩,
⟨some 38, none, false, .fld 0 (some 2) (.tmp 5)⟩,
⟨some 39, none, false, .call (.func 18) [.tmp 37, .tmp 38]⟩,
⟨some 40, none, false, .una .not (.tmp 39)⟩,
⟨some 41, none, false, .mov (.tmp 40)⟩,
⟨some 42, some (41, false), false, .mov (.tmp 2)⟩,
⟨some 43, some (41, false), false, .bin .lss (.tmp 42) (.const (.int .i64 0))⟩,
⟨some 44, none, false, .pick (.tmp 41) (.const (.bool true)) (.tmp 43)⟩,
⟨some 45, none, false, .mov (.tmp 44)⟩,
⟨some 46, some (45, false), false, .mov (.tmp 2)⟩,
⟨some 47, some (45, false), false, .bin .gtr (.tmp 46) (.const (.int .i64 9000))⟩,
⟨some 48, none, false, .pick (.tmp 45) (.const (.bool true)) (.tmp 47)⟩,
⟨some 49, none, false, .mov (.tmp 48)⟩,
⟨some 50, some (49, false), false, .mov (.tmp 3)⟩,
⟨some 51, some (49, false), false, .bin .lss (.tmp 50) (.const (.int .i64 0))⟩,
⟨some 52, none, false, .pick (.tmp 49) (.const (.bool true)) (.tmp 51)⟩,
⟨some 53, none, false, .mov (.tmp 52)⟩,
⟨some 54, some (53, false), false, .mov (.tmp 3)⟩,
⟨some 55, some (53, false), false, .bin .gtr (.tmp 54) (.const (.int .i64 1000000))⟩,
⟨some 56, none, false, .pick (.tmp 53) (.const (.bool true)) (.tmp 55)⟩]) (.cond (.tmp 56) (.seq (.ops false [
⟨some 57, none, false, .fld 0 (some 4) (.tmp 10)⟩,
⟨some 58, none, false, .bld [.int .i64 0, .int .i64 0, .slice none 0 0, .slice none 0 0] []⟩,
⟨some 59, none, false, .call (.func 12) [.tmp 57, .tmp 58]⟩,
⟨some 60, none, false, .mov (.tmp 59)⟩,
⟨some 61, some (60, true), false, .mov (.tmp 11)⟩,
⟨some 62, some (60, true), false, .bin .eql (.tmp 61) (.const (.int .i64 2))⟩,
⟨some 63, none, false, .pick (.tmp 60) (.tmp 62) (.const (.bool false))⟩,
⟨some 64, none, false, .mov (.tmp 63)⟩,
⟨some 65, some (64, true), false, .fld 0 (some 4) (.tmp 4)⟩,
⟨some 66, some (64, true), false, .fld 0 (some 4) (.tmp 9)⟩,
⟨some 67, some (64, true), false, .call (.func 12) [.tmp 65, .tmp 66]⟩,
⟨some 68, none, false, .pick (.tmp 64) (.tmp 67) (.const (.bool false))⟩,
⟨some 69, none, false, .mov (.tmp 68)⟩,
⟨some 70, some (69, true), false, .call (.func 13) []⟩,
⟨some 71, none, false, .pick (.tmp 69) (.tmp 70) (.const (.bool false))⟩,
⟨some 8, none, false, .mov (.tmp 71)⟩]) .ret) .skip)) (.seq (.seq (.ops true [
⟨some 72, none, false, .mov (.tmp 11)⟩,
⟨some 73, none, false, .bin .neq (.tmp 72) (.const (.int .i64 0))⟩,
⟨some 74, none, false, .mov (.tmp 73)⟩,
⟨some 75, some (74, false), false, .fld 0 (some 4) (.tmp 10)⟩,
⟨some 76, some (74, false), false, .fld 0 (some 4) (.tmp 4)⟩,
⟨some 77, some (74, false), false, .fld 0 (some 2) (.tmp 5)⟩,
⟨some 78, some (74, false), false, .mov (.tmp 2)⟩,
⟨some 79, some (74, false), false, .mov (.tmp 3)⟩,
⟨some 80, some (74, false), true, .call (.func 19) [.tmp 76, .tmp 77, .tmp 78, .tmp 79]⟩,
⟨some 81, some (74, false), false, .call (.func 12) [.tmp 75, .tmp 80]⟩,
⟨some 82, some (74, false), false, .una .not (.tmp 81)⟩,
⟨some 83, none, false, .pick (.tmp 74) (.const (.bool true)) (.tmp 82)⟩,
⟨some 84, none, false, .mov (.tmp 83)⟩,
⟨some 85, some (84, false), false, .fld 0 (some 4) (.tmp 4)⟩,
⟨some 86, some (84, false), false, .fld 0 (some 4) (.tmp 9)⟩,
⟨some 87, some (84, false), false, .call (.func 12) [.tmp 85, .tmp 86]⟩,
⟨some 88, some (84, false), false, .una .not (.tmp 87)⟩,
⟨some 89, none, false, .pick (.tmp 84) (.const (.bool true)) (.tmp 88)⟩]) (.cond (.tmp 89) (.seq (.ops false [
⟨some 8, none, false, .mov (.const (.bool false))⟩]) .ret) .skip)) (.seq (.seq (.ops false [
⟨some 12, none, false, .mov (.const (.int .i64 0))⟩]) (.block 0 (.loop (.seq (.seq (.ops false [
⟨some 90, none, false, .mov (.tmp 12)⟩,
⟨some 91, none, false, .fld 0 (some 0) (.tmp 10)⟩,
⟨some 92, none, false, .fld 2 none (.tmp 10)⟩,
⟨some 93, none, false, .len .sl (.tmp 92)⟩,
⟨some 94, none, false, .bin .lss (.tmp 90) (.tmp 93)⟩]) (.cond (.tmp 94) .skip (.exit 0))) (.seq (.block 1 (.seq (.ops false [
⟨some 97, none, false, .fld 0 (some 0) (.tmp 10)⟩,
⟨some 98, none, false, .fld 2 none (.tmp 10)⟩,
⟨some 99, none, false, .mov (.tmp 12)⟩,
⟨some 100, none, false, .ixs 1 (.tmp 98) (.tmp 99)⟩,
⟨some 101, none, false, .ld1 (.tmp 100)⟩,
⟨some 102, none, false, .bin .add (.tmp 101) (.const (.int .i64 1))⟩,
⟨some 103, none, false, .ixs 1 (.tmp 98) (.tmp 99)⟩,
⟨none, none, false, .sto 1 (.tmp 103) (.tmp 102)⟩]) (.ops false [
⟨some 104, none, false, .fld 0 (some 0) (.tmp 10)⟩,
⟨some 105, none, false, .fld 3 none (.tmp 10)⟩,
⟨some 106, none, false, .mov (.tmp 12)⟩,
⟨some 107, none, false, .ixs 1 (.tmp 105) (.tmp 106)⟩,
⟨some 108, none, false, .ld1 (.tmp 107)⟩,
⟨some 109, none, false, .bin .add (.tmp 108) (.const (.int .i64 1))⟩,
⟨some 110, none, false, .ixs 1 (.tmp 105) (.tmp 106)⟩,
⟨none, none, false, .sto 1 (.tmp 110) (.tmp 109)⟩]))) (.ops false [
⟨some 95, none, false, .mov (.tmp 12)⟩,
⟨some 96, none, false, .bin .add (.tmp 95) (.const (.int .i64 1))⟩,
⟨some 12, none, false, .mov (.tmp 96)⟩])))))) (.seq (.ops false [
⟨some 111, none, false, .fld 0 (some 4) (.tmp 4)⟩,
⟨some 112, none, false, .fld 0 (some 4) (.tmp 9)⟩,
⟨some 113, none, false, .call (.func 12) [.tmp 111, .tmp 112]⟩,
⟨some 114, none, false, .mov (.tmp 113)⟩,
⟨some 115, some (114, true), false, .call (.func 13) []⟩,
⟨some 116, none, false, .pick (.tmp 114) (.tmp 115) (.const (.bool false))⟩,
⟨some 8, none, false, .mov (.tmp 116)⟩]) .ret)))))))) }
theorem pr4 : promFn 0 ⟨117, [4, 5, 9, 10], [16, 18, 21, 25, 91, 97, 104]⟩ ic4 = some ip4 := by kernel_rfl
/-- bandplan/bandplanlaw10.TerrainLines, with registers -/
def ip5 : IFn := { ntmps := 59, results := [.tmp 4], code := (.seq (.ops false [
⟨some 2, none, false, .mov (.const undef)⟩,
⟨some 3, none, false, .mov (.const undef)⟩,
⟨some 2, none, false, .regb 2 (.tmp 0)⟩,
⟨some 3, none, false, .regb 2 (.tmp 1)⟩,
⟨some 4, none, false, .mov (.const (.bool false))⟩]) (.seq (.ops false [
⟨some 10, none, false, .fld 0 (some 2) (.tmp 2)⟩,
⟨some 11, none, false, .fld 0 (some 2) (.tmp 3)⟩,
⟨some 12, none, false, .call (.func 20) [.tmp 10, .tmp 11]⟩,
⟨some 9, none, false, .mov (.tmp 12)⟩,
⟨some 13, none, false, .ext (.tmp 9) 0⟩,
⟨some 14, none, false, .ext (.tmp 9) 1⟩,
⟨some 5, none, false, .mov (.tmp 13)⟩,
⟨some 6, none, false, .mov (.tmp 14)⟩]) (.seq (.seq (.ops false [
⟨some 7, none, false, .mov (.const (.int .i64 0))⟩]) (.block 0 (.loop (.seq (.seq (.ops false [
⟨some 15, none, false, .mov (.tmp 7)⟩,
⟨some 16, none, false, .bin .lss (.tmp 15) (.const (.int .i64 4))⟩]) (.cond (.tmp 16) .skip (.exit 0))) (.seq (.block 1 (.seq (.ops false [
⟨some 19, none, false, .fld 0 (some 0) (.tmp 2)⟩,
⟨some 20, none, false, .fld 0 none (.tmp 2)⟩,
⟨some 21, none, false, .fld 0 (some 0) (.tmp 2)⟩,
⟨some 22, none, false, .fld 1 none (.tmp 2)⟩,
⟨some 23, none, false, .fld 0 (some 0) (.tmp 3)⟩,
⟨some 24, none, false, .fld 0 none (.tmp 3)⟩,
⟨some 25, none, false, .fld 0 (some 0) (.tmp 3)⟩,
⟨some 26, none, false, .fld 1 none (.tmp 3)⟩,
⟨some 27, none, false, .bsl 4 [.int .i64 0, .int .i64 0, .int .i64 0, .int .i64 0] [(0, 1, .tmp 20), (1, 1, .tmp 22), (2, 1, .tmp 24), (3, 1, .tmp 26)]⟩,
⟨some 28, none, false, .mov (.tmp 7)⟩,
⟨some 29, none, false, .ixs 1 (.tmp 27) (.tmp 28)⟩,
⟨some 30, none, false, .ld1 (.tmp 29)⟩,
⟨some 8, none, false, .mov (.tmp 30)⟩]) (.seq (.ops false [
⟨some 31, none, false, .mov (.tmp 8)⟩,
⟨some 32, none, false, .bin .lss (.tmp 31) (.const (.int .i64 0))⟩,
⟨some 33, none, false, .mov (.tmp 32)⟩,
⟨some 34, some (33, false), false, .mov (.tmp 8)⟩,
⟨some 35, some (33, false), false, .bin .gtr (.tmp 34) (.const (.int .i64 63))⟩,
⟨some 36, none, false, .pick (.tmp 33) (.const (.bool true)) (.tmp 35)⟩]) (.cond (.tmp 36) (.seq (.ops false [
⟨some 37, none, false, .mov (.tmp 5)⟩,
⟨some 38, none, false, .len .sl (.tmp 37)⟩,
⟨some 39, none, false, .bin .eql (.tmp 38) (.const (.int .i64 0))⟩,
⟨some 40, none, false, .mov (.tmp 39)⟩,
⟨some 41, some (40, true), false, .mov (.tmp 6)⟩,
⟨some 42, some (40, true), false, .bin .eql (.tmp 41) (.const (.int .i64 2))⟩,
⟨some 43, none, false, .pick (.tmp 40) (.tmp 42) (.const (.bool false))⟩,
⟨some 44, none, false, .mov (.tmp 43)⟩,
⟨some 45, some (44, true), false, .call (.func 13) []⟩,
⟨some 46, none, false, .pick (.tmp 44) (.tmp 45) (.const (.bool false))⟩,
⟨some 4, none, false, .mov (.tmp 46)⟩]) .ret) .skip)))) (.ops false [
⟨some 17, none, false, .mov (.tmp 7)⟩,
⟨some 18, none, false, .bin .add (.tmp 17) (.const (.int .i64 1))⟩,
⟨some 7, none, false, .mov (.tmp 18)⟩])))))) (.seq (.ops false [
⟨some 47, none, false, .mov (.tmp 6)⟩,
⟨some 48, none, false, .bin .eql (.tmp 47) (.const (.int .i64 0))⟩,
⟨some 49, none, false, .mov (.tmp 48)⟩,
⟨some 50, some (49, true), false, .mov (.tmp 5)⟩,
⟨some 51, some (49, true), false, .fld 0 (some 2) (.tmp 2)⟩,
⟨some 52, some (49, true), false, .fld 0 (some 2) (.tmp 3)⟩,
⟨some 53, some (49, true), false, .call (.func 22) [.tmp 51, .tmp 52]⟩,
⟨some 54, some (49, true), false, .call (.func 21) [.tmp 50, .tmp 53]⟩,
⟨some 55, none, false, .pick (.tmp 49) (.tmp 54) (.const (.bool false))⟩,
⟨some 56, none, false, .mov (.tmp 55)⟩,
⟨some 57, some (56, true), false, .call (.func 13) []⟩,
⟨some 58, none, false, .pick (.tmp 56) (.tmp 57) (.const (.bool false))⟩,
⟨some 4, none, false, .mov (.tmp 58)⟩]) .ret)))) }
theorem pr5 : promFn 0 ⟨59, [2, 3], [19, 21, 23, 25]⟩ ic5 = some ip5 := by kernel_rfl
/-- bandplan/bandplanlaw10.TerrainProfiles, with registers -/
def ip6 : IFn := { ntmps := 82, results := [.tmp 6], code := (.seq (.ops false [
⟨some 3, none, false, .mov (.const undef)⟩,
⟨some 4, none, false, .mov (.const undef)⟩,
⟨some 5, none, false, .mov (.const undef)⟩,
⟨some 3, none, false, .regb 4 (.tmp 0)⟩,
⟨some 4, none, false, .regb 2 (.tmp 1)⟩,
⟨some 5, none, false, .regb 2 (.tmp 2)⟩,
⟨some 6, none, false, .mov (.const (.bool false))⟩]) (.seq (.seq (.ops false [
⟨some 11, none, false, .fld 0 (some 4) (.tmp 3)⟩,
⟨some 12, none, false, .call (.func 16) [.tmp 11]⟩]) (.cond (.tmp 12) (.seq (.ops false [
⟨some 13, none, false, .call (.func 13) []⟩,
⟨some 6, none, false, .mov (.tmp 13)⟩]) .ret) .skip)) (.seq (.ops false [
⟨some 15, none, false, .fld 0 (some 4) (.tmp 3)⟩,
⟨some 16, none, false, .fld 0 (some 2) (.tmp 4)⟩,
⟨some 17, none, false, .fld 0 (some 2) (.tmp 5)⟩,
⟨some 18, none, false, .call (.func 23) [.tmp 15, .tmp 16, .tmp 17]⟩,
⟨some 14, none, false, .mov (.tmp 18)⟩,
⟨some 19, none, false, .ext (.tmp 14) 0⟩,
⟨some 20, none, false, .ext (.tmp 14) 1⟩,
⟨some 7, none, false, .mov (.tmp 19)⟩,
⟨some 8, none, false, .mov (.tmp 20)⟩]) (.seq (.ops false [
⟨some 22, none, false, .fld 0 (some 4) (.tmp 3)⟩,
⟨some 23, none, false, .fld 0 (some 2) (.tmp 4)⟩,
⟨some 24, none, false, .fld 0 (some 2) (.tmp 5)⟩,
⟨some 25, none, false, .call (.func 24) [.tmp 22, .tmp 23, .tmp 24]⟩,
⟨some 21, none, false, .mov (.tmp 25)⟩,
⟨some 26, none, false, .ext (.tmp 21) 0⟩,
⟨some 27, none, false, .ext (.tmp 21) 1⟩,
⟨some 9, none, false, .mov (.tmp 26)⟩,
⟨some 10, none, false, .mov (.tmp 27)⟩]) (.seq (.seq (.ops false [
⟨some 28, none, false, .fld 0 (some 4) (.tmp 3)⟩,
⟨some 29, none, false, .fld 0 (some 2) (.tmp 4)⟩,
⟨some 30, none, false, .call (.func 18) [.tmp 28, .tmp 29]⟩,
⟨some 31, none, false, .una .not (.tmp 30)⟩,
⟨some 32, none, false, .mov (.tmp 31)⟩,
⟨some 33, some (32, false), false, .fld 0 (some 4) (.tmp 3)⟩,
⟨some 34, some (32, false), false, .fld 0 (some 2) (.tmp 5)⟩,
⟨some 35, some (32, false), false, .call (.func 18) [.tmp 33, .tmp 34]⟩,
⟨some 36, some (32, false), false, .una .not (.tmp 35)⟩,
⟨some 37, none, false, .pick (.tmp 32) (.const (.bool true)) (.tmp 36)⟩]) (.cond (.tmp 37) (.seq (.ops false [
⟨some 38, none, false, .mov (.tmp 7)⟩,
⟨some 39, none, false, .len .sl (.tmp 38)⟩,
⟨some 40, none, false, .bin .eql (.tmp 39) (.const (.int .i64 0))⟩,
⟨some 41, none, false, .mov (.tmp 40)⟩,
⟨some 42, some (41, true), false, .mov (.tmp 8)⟩,
⟨some 43, some (41, true), false, .bin .eql (.tmp 42) (.const (.int .i64 2))⟩,
⟨some 44, none, false, .pick (.tmp 41) (.tmp 43) (.const (.bool false))⟩,
⟨some 45, none, false, .mov (.tmp 44)⟩,
⟨some 46, some (45, true), false, .mov (.tmp 9)⟩,
⟨some 47, some (45, true), false, .len .sl (.tmp 46)⟩,
⟨some 48, some (45, true), false, .bin .eql (.tmp 47) (.const (.int .i64 0))⟩,
⟨some 49, none, false, .pick (.tmp 45) (.tmp 48) (.const (.bool false))⟩,
⟨some 50, none, false, .mov (.tmp 49)⟩,
⟨some 51, some (50, true), false, .mov (.tmp 10)⟩,
⟨some 52, some (50, true), false, .bin .eql (.tmp 51) (.const (.int .i64 2))⟩,
⟨some 53, none, false, .pick (.tmp 50) (.tmp 52) (.const (.bool false))⟩,
⟨some 54, none, false, .mov (.tmp 53)⟩,
⟨some 55, some (54, true), false, .call (.func 13) []⟩,
⟨some 56, none, false, .pick (.tmp 54) (.tmp 55) (.const (.bool false))⟩,
⟨some 6, none, false, .mov (.tmp 56)⟩]) .ret) .skip)) (.seq (.ops false [
⟨some 57, none, false, .mov (.tmp 8)⟩,
⟨some 58, none, false, .bin .eql (.tmp 57) (.const (.int .i64 0))⟩,
⟨some 59, none, false, .mov (.tmp 58)⟩,
⟨some 60, some (59, true), false, .mov (.tmp 7)⟩,
⟨some 61, some (59, true), false, .fld 0 (some 4) (.tmp 3)⟩,
⟨some 62, some (59, true), false, .fld 0 (some 2) (.tmp 4)⟩,
⟨some 63, some (59, true), false, .fld 0 (some 2) (.tmp 5)⟩,
⟨some 64, some (59, true), false, .call (.func 26) [.tmp 61, .tmp 62, .tmp 63]⟩,
⟨some 65, some (59, true), false, .call (.func 25) [.tmp 60, .tmp 64]⟩,
⟨some 66, none, false, .pick (.tmp 59) (.tmp 65) (.const (.bool false))⟩,
⟨some 67, none, false, .mov (.tmp 66)⟩,
⟨some 68, some (67, true), false, .mov (.tmp 10)⟩,
⟨some 69, some (67, true), false, .bin .eql (.tmp 68) (.const (.int .i64 0))⟩,
⟨some 70, none, false, .pick (.tmp 67) (.tmp 69) (.const (.bool false))⟩,
⟨some 71, none, false, .mov (.tmp 70)⟩,
⟨some 72, some (71, true), false, .mov (.tmp 9)⟩,
⟨some 73, some (71, true), false, .fld 0 (some 4) (.tmp 3)⟩,
⟨some 74, some (71, true), false, .fld 0 (some 2) (.tmp 4)⟩,
⟨some 75, some (71, true), false, .fld 0 (some 2) (.tmp 5)⟩,
⟨some 76, some (71, true), false, .call (.func 27) [.tmp 73, .tmp 74, .tmp 75]⟩,
⟨some 77, some (71, true), false, .call (.func 25) [.tmp 72, .tmp 76]⟩,
⟨some 78, none, false, .pick (.tmp 71) (.tmp 77) (.const (.bool false))⟩,
⟨some 79, none, false, .mov (.tmp 78)⟩,
⟨some 80, some (79, true), false, .call (.func 13) []⟩,
⟨some 81, none, false, .pick (.tmp 79) (.tmp 80) (.const (.bool false))⟩,
⟨some 6, none, false, .mov (.tmp 81)⟩]) .ret)))))) }
theorem pr6 : promFn 0 ⟨82, [3, 4, 5], []⟩ ic6 = some ip6 := by kernel_rfl
/-- bandplan/bandplanlaw10.TerrainTotals, with registers -/
def ip7 : IFn := { ntmps := 62, results := [.tmp 4], code := (.seq (.ops false [
⟨some 2, none, false, .mov (.const undef)⟩,
⟨some 2, none, false, .regb 4 (.tmp 0)⟩,
⟨some 4, none, false, .mov (.const (.bool false))⟩]) (.seq (.seq (.ops false [
⟨some 9, none, false, .fld 0 (some 4) (.tmp 2)⟩,
⟨some 10, none, false, .call (.func 16) [.tmp 9]⟩,
⟨some 11, none, false, .mov (.tmp 10)⟩,
⟨some 12, some (11, false), false, .mov (.tmp 1)⟩,
⟨some 13, some (11, false), false, .len .sl (.tmp 12)⟩,
⟨some 14, some (11, false), false, .bin .gtr (.tmp 13) (.const (.int .i64 100))⟩,
⟨some 15, none, false, .pick (.tmp 11) (.const (.bool true)) (.tmp 14)⟩]) (.cond (.tmp 15) (.seq (.ops false [
⟨some 16, none, false, .call (.func 13) []⟩,
⟨some 4, none, false, .mov (.tmp 16)⟩]) .ret) .skip)) (.seq (.ops false [
⟨some 18, none, false, .fld 0 (some 4) (.tmp 2)⟩,
⟨some 19, none, false, .mov (.tmp 1)⟩,
⟨some 20, none, false, .call (.func 28) [.tmp 18, .tmp 19]⟩,
⟨some 17, none, false, .mov (.tmp 20)⟩,
⟨some 21, none, false, .ext (.tmp 17) 0⟩,
⟨some 22, none, false, .ext (.tmp 17) 1⟩,
⟨some 5, none, false, .mov (.tmp 21)⟩,
⟨some 6, none, false, .mov (.tmp 22)⟩]) (.seq (.seq (.ops false [
⟨some 23, none, false, .fld 0 (some 4) (.tmp 2)⟩,
⟨some 24, none, false, .call (.func 29) [.tmp 23]⟩,
⟨some 25, none, false, .una .not (.tmp 24)⟩]) (.cond (.tmp 25) (.seq (.ops false [
⟨some 26, none, false, .mov (.tmp 5)⟩,
⟨some 27, none, false, .bin .eql (.tmp 26) (.const (.int .i64 0))⟩,
⟨some 28, none, false, .mov (.tmp 27)⟩,
⟨some 29, some (28, true), false, .mov (.tmp 6)⟩,
⟨some 30, some (28, true), false, .bin .eql (.tmp 29) (.const (.int .i64 2))⟩,
⟨some 31, none, false, .pick (.tmp 28) (.tmp 30) (.const (.bool false))⟩,
⟨some 32, none, false, .mov (.tmp 31)⟩,
⟨some 33, some (32, true), false, .call (.func 13) []⟩,
⟨some 34, none, false, .pick (.tmp 32) (.tmp 33) (.const (.bool false))⟩,
⟨some 4, none, false, .mov (.tmp 34)⟩]) .ret) .skip)) (.seq (.ops false [
⟨some 36, none, false, .fld 0 (some 4) (.tmp 2)⟩,
⟨some 37, none, false, .mov (.tmp 1)⟩,
⟨some 38, none, false, .call (.func 30) [.tmp 36, .tmp 37]⟩,
⟨some 35, none, false, .mov (.tmp 38)⟩,
⟨some 39, none, false, .ext (.tmp 35) 0⟩,
⟨some 40, none, false, .ext (.tmp 35) 1⟩,
⟨some 7, none, false, .mov (.tmp 39)⟩,
⟨some 8, none, false, .mov (.tmp 40)⟩]) (.seq (.seq (.ops false [
⟨some 41, none, false, .mov (.tmp 8)⟩,
⟨some 42, none, false, .una .not (.tmp 41)⟩]) (.cond (.tmp 42) (.seq (.ops false [
⟨some 43, none, false, .mov (.tmp 5)⟩,
⟨some 44, none, false, .bin .eql (.tmp 43) (.const (.int .i64 0))⟩,
⟨some 45, none, false, .mov (.tmp 44)⟩,
⟨some 46, some (45, true), false, .mov (.tmp 6)⟩,
⟨some 47, some (45, true), false, .bin .eql (.tmp 46) (.const (.int .i64 2))⟩,
⟨some 48, none, false, .pick (.tmp 45) (.tmp 47) (.const (.bool false))⟩,
⟨some 49, none, false, .mov (.tmp 48)⟩,
⟨some 50, some (49, true), false, .call (.func 13) []⟩,
⟨some 51, none, false, .pick (.tmp 49) (.tmp 50) (.const (.bool false))⟩,
⟨some 4, none, false, .mov (.tmp 51)⟩]) .ret) .skip)) (.seq (.ops false [
⟨some 52, none, false, .mov (.tmp 5)⟩,
⟨some 53, none, false, .mov (.tmp 7)⟩,
⟨some 54, none, false, .bin .eql (.tmp 52) (.tmp 53)⟩,
⟨some 55, none, false, .mov (.tmp 54)⟩,
⟨some 56, some (55, true), false, .mov (.tmp 6)⟩,
⟨some 57, some (55, true), false, .bin .eql (.tmp 56) (.const (.int .i64 0))⟩,
⟨some 58, none, false, .pick (.tmp 55) (.tmp 57) (.const (.bool false))⟩,
⟨some 59, none, false, .mov (.tmp 58)⟩,
⟨some 60, some (59, true), false, .call (.func 13) []⟩,
⟨some 61, none, false, .pick (.tmp 59) (.tmp 60) (.const (.bool false))⟩,
⟨some 4, none, false, .mov (.tmp 61)⟩]) .ret))))))) }
theorem pr7 : promFn 0 ⟨62, [2], []⟩ ic7 = some ip7 := by kernel_rfl
/-- bandplan/bandplanlaw10.TerrainSymmetry, with registers -/
def ip8 : IFn := { ntmps := 284, results := [.tmp 8], code := (.seq (.ops false [
⟨some 4, none, false, .mov (.const undef)⟩,
⟨some 5, none, false, .mov (.const undef)⟩,
⟨some 6, none, false, .mov (.const undef)⟩,
⟨some 4, none, false, .regb 4 (.tmp 0)⟩,
⟨some 5, none, false, .regb 2 (.tmp 1)⟩,
⟨some 6, none, false, .regb 2 (.tmp 2)⟩,
⟨some 8, none, false, .mov (.const (.bool false))⟩]) (.seq (.seq (.ops false [
⟨some 28, none, false, .fld 0 (some 4) (.tmp 4)⟩,
⟨some 29, none, false, .call (.func 16) [.tmp 28]⟩,
⟨some 30, none, false, .mov (.tmp 29)⟩,
⟨some 31, some (30, false), false, .fld 0 (some 4) (.tmp 4)⟩,
⟨some 32, some (30, false), false, .fld 0 (some 2) (.tmp 5)⟩,
⟨some 33, some (30, false), false, .call (.func 18) [.tmp 31, .tmp 32]⟩,
⟨some 34, some (30, false), false, .una .not (.tmp 33)⟩,
⟨some 35, none, false, .pick (.tmp 30) (.const (.bool true)) (.tmp 34)⟩,
⟨some 36, none, false, .mov (.tmp 35)⟩,
⟨some 37, some (36, false), false, .fld 0 (some 4) (.tmp 4)⟩,
⟨some 38, some (36, false), false, .fld 0 (some 2) (.tmp 6)⟩,
⟨some 39, some (36, false), false, .call (.func 18) [.tmp 37, .tmp 38]⟩,
⟨some 40, some (36, false), false, .una .not (.tmp 39)⟩,
⟨some 41, none, false, .pick (.tmp 36) (.const (.bool true)) (.tmp 40)⟩]) (.cond (.tmp 41) (.seq (.ops false [
⟨some 42, none, false, .call (.func 13) []⟩,
⟨some 8, none, false, .mov (.tmp 42)⟩]) .ret) .skip)) (.seq (.ops false [
⟨some 44, none, false, .fld 0 (some 2) (.tmp 5)⟩,
⟨some 45, none, false, .fld 0 (some 2) (.tmp 6)⟩,
⟨some 46, none, false, .call (.func 20) [.tmp 44, .tmp 45]⟩,
⟨some 43, none, false, .mov (.tmp 46)⟩,
⟨some 47, none, false, .ext (.tmp 43) 0⟩,
⟨some 48, none, false, .ext (.tmp 43) 1⟩,
⟨some 9, none, false, .mov (.tmp 47)⟩,
⟨some 10, none, false, .mov (.tmp 48)⟩]) (.seq (.ops false [
⟨some 50, none, false, .fld 0 (some 2) (.tmp 6)⟩,
⟨some 51, none, false, .fld 0 (some 2) (.tmp 5)⟩,
⟨some 52, none, false, .call (.func 20) [.tmp 50, .tmp 51]⟩,
⟨some 49, none, false, .mov (.tmp 52)⟩,
⟨some 53, none, false, .ext (.tmp 49) 0⟩,
⟨some 54, none, false, .ext (.tmp 49) 1⟩,
⟨some 11, none, false, .mov (.tmp 53)⟩,
⟨some 12, none, false, .mov (.tmp 54)⟩]) (.seq (.seq (.ops false [
⟨some 55, none, false, .mov (.tmp 10)⟩,
⟨some 56, none, false, .bin .neq (.tmp 55) (.const (.int .i64 0))⟩,
⟨some 57, none, false, .mov (.tmp 56)⟩,
⟨some 58, some (57, false), false, .mov (.tmp 12)⟩,
⟨some 59, some (57, false), false, .bin .neq (.tmp 58) (.const (.int .i64 0))⟩,
⟨some 60, none, false, .pick (.tmp 57) (.const (.bool true)) (.tmp 59)⟩,
⟨some 61, none, false, .mov (.tmp 60)⟩,
⟨some 62, some (61, false), false, .mov (.tmp 9)⟩,
⟨some 63, some (61, false), false, .len .sl (.tmp 62)⟩,
⟨some 64, some (61, false), false, .mov (.tmp 11)⟩,
⟨some 65, some (61, false), false, .len .sl (.tmp 64)⟩,
⟨some 66, some (61, false), false, .bin .neq (.tmp 63) (.tmp 65)⟩,
⟨some 67, none, false, .pick (.tmp 61) (.const (.bool true)) (.tmp 66)⟩,
⟨some 68, none, false, .mov (.tmp 67)⟩,
⟨some 69, some (68, false), false, .mov (.tmp 9)⟩,
⟨some 70, some (68, false), false, .len .sl (.tmp 69)⟩,
⟨some 71, some (68, false), false, .bin .eql (.tmp 70) (.const (.int .i64 0))⟩,
⟨some 72, some (68, false), false, .mov (.tmp 71)⟩,
⟨some 73, some (72, true), false, .fld 0 (some 2) (.tmp 5)⟩,
⟨some 74, some (72, true), false, .fld 0 (some 2) (.tmp 6)⟩,
⟨some 75, some (72, true), false, .call (.func 31) [.tmp 73, .tmp 74]⟩,
⟨some 76, some (72, true), false, .una .not (.tmp 75)⟩,
⟨some 77, some (68, false), false, .pick (.tmp 72) (.tmp 76) (.const (.bool false))⟩,
⟨some 78, none, false, .pick (.tmp 68) (.const (.bool true)) (.tmp 77)⟩]) (.cond (.tmp 78) (.seq (.ops false [
⟨some 8, none, false, .mov (.const (.bool false))⟩]) .ret) .skip)) (.seq (.seq (.ops false [
⟨some 13, none, false, .mov (.const (.int .i64 0))⟩]) (.block 0 (.loop (.seq (.seq (.ops false [
⟨some 79, none, false, .mov (.tmp 13)⟩,
⟨some 80, none, false, .mov (.tmp 9)⟩,
⟨some 81, none, false, .len .sl (.tmp 80)⟩,
⟨some 82, none, false, .bin .lss (.tmp 79) (.tmp 81)⟩]) (.cond (.tmp 82) .skip (.exit 0))) (.seq (.block 1 (.seq (.seq (.ops true [
⟨some 85, none, false, .mov (.tmp 9)⟩,
⟨some 86, none, false, .mov (.tmp 13)⟩,
⟨some 87, none, false, .ixs 2 (.tmp 85) (.tmp 86)⟩,
⟨some 88, none, false, .ldn 2 (.tmp 87)⟩,
⟨some 89, none, false, .mov (.tmp 11)⟩,
⟨some 90, none, false, .mov (.tmp 11)⟩,
⟨some 91, none, false, .len .sl (.tmp 90)⟩,
⟨some 92, none, false, .bin .sub (.tmp 91) (.const (.int .i64 1))⟩,
⟨some 93, none, false, .mov (.tmp 13)⟩,
⟨some 94, none, false, .bin .sub (.tmp 92) (.tmp 93)⟩,
⟨some 95, none, false, .ixs 2 (.tmp 89) (.tmp 94)⟩,
⟨some 96, none, false, .ldn 2 (.tmp 95)⟩,
⟨some 97, none, false, .eq (.flat [.i, .i]) true (.tmp 88) (.tmp 96)⟩,
⟨some 98, none, false, .mov (.tmp 97)⟩,
⟨some 99, some (98, false), false, .fld 0 (some 4) (.tmp 4)⟩,
⟨some 100, some (98, false), false, .mov (.tmp 9)⟩,
⟨some 101, some (98, false), false, .mov (.tmp 13)⟩,
⟨some 102, some (98, false), false, .ixs 2 (.tmp 100) (.tmp 101)⟩,
⟨some 103, some (98, false), false, .ldn 2 (.tmp 102)⟩,
⟨some 104, some (98, false), false, .call (.func 32) [.tmp 99, .tmp 103]⟩,
⟨some 105, some (98, false), false, .una .not (.tmp 104)⟩,
⟨some 106, none, false, .pick (.tmp 98) (.const (.bool true)) (.tmp 105)⟩,
⟨some 107, none, false, .mov (.tmp 106)⟩,
⟨some 108, some (107, false), false, .mov (.tmp 9)⟩,
⟨some 109, some (107, false), false, .mov (.tmp 13)⟩,
⟨some 110, some (107, false), false, .ixs 2 (.tmp 108) (.tmp 109)⟩,
⟨some 111, some (107, false), false, .ldn 2 (.tmp 110)⟩,
⟨some 112, some (107, false), false, .fld 0 (some 2) (.tmp 5)⟩,
⟨some 113, some (107, false), false, .eq (.flat [.i, .i]) false (.tmp 111) (.tmp 112)⟩,
⟨some 114, none, false, .pick (.tmp 107) (.const (.bool true)) (.tmp 113)⟩,
⟨some 115, none, false, .mov (.tmp 114)⟩,
⟨some 116, some (115, false), false, .mov (.tmp 9)⟩,
⟨some 117, some (115, false), false, .mov (.tmp 13)⟩,
⟨some 118, some (115, false), false, .ixs 2 (.tmp 116) (.tmp 117)⟩,
⟨some 119, some (115, false), false, .ldn 2 (.tmp 118)⟩,
⟨some 120, some (115, false), false, .fld 0 (some 2) (.tmp 6)⟩,
⟨some 121, some (115, false), false, .eq (.flat [.i, .i]) false (.tmp 119) (.tmp 120)⟩,
⟨some 122, none, false, .pick (.tmp 115) (.const (.bool true)) (.tmp 121)⟩]) (.cond (.tmp 122) (.seq (.ops false [
⟨some 8, none, false, .mov (.const (.bool false))⟩]) .ret) .skip)) (.seq (.ops true [
⟨some 123, none, false, .mov (.tmp 13)⟩,
⟨some 124, none, false, .bin .gtr (.tmp 123) (.const (.int .i64 0))⟩,
⟨some 125, none, false, .mov (.tmp 124)⟩,
⟨some 126, some (125, true), false, .mov (.tmp 9)⟩,
⟨some 127, some (125, true), false, .mov (.tmp 13)⟩,
⟨some 128, some (125, true), false, .bin .sub (.tmp 127) (.const (.int .i64 1))⟩,
⟨some 129, some (125, true), false, .ixs 2 (.tmp 126) (.tmp 128)⟩,
⟨some 130, some (125, true), false, .ldn 2 (.tmp 129)⟩,
⟨some 131, some (125, true), false, .mov (.tmp 9)⟩,
⟨some 132, some (125, true), false, .mov (.tmp 13)⟩,
⟨some 133, some (125, true), false, .ixs 2 (.tmp 131) (.tmp 132)⟩,
⟨some 134, some (125, true), false, .ldn 2 (.tmp 133)⟩,
⟨some 135, some (125, true), false, .call (.func 31) [.tmp 130, .tmp 134]⟩,
⟨some 136, some (125, true), false, .una .not (.tmp 135)⟩,
⟨some 137, some (125, true), false, .mov (.tmp 136)⟩,
⟨some 138, some (137, false), false, .mov (.tmp 9)⟩,
⟨some 139, some (137, false), false, .mov (.tmp 13)⟩,
⟨some 140, some (137, false), false, .bin .sub (.tmp 139) (.const (.int .i64 1))⟩,
⟨some 141, some (137, false), false, .ixs 2 (.tmp 138) (.tmp 140)⟩,
⟨some 142, some (137, false), false, .ldn 2 (.tmp 141)⟩,
⟨some 143, some (137, false), false, .mov (.tmp 9)⟩,
⟨some 144, some (137, false), false, .mov (.tmp 13)⟩,
⟨some 145, some (137, false), false, .ixs 2 (.tmp 143) (.tmp 144)⟩,
⟨some 146, some (137, false), false, .ldn 2 (.tmp 145)⟩,
⟨some 147, some (137, false), false, .eq (.flat [.i, .i]) false (.tmp 142) (.tmp 146)⟩,
⟨some 148, some (125, true), false, .pick (.tmp 137) (.const (.bool true)) (.tmp 147)⟩,
⟨some 149, none, false, .pick (.tmp 125) (.tmp 148) (.const (.bool false))⟩]) (.cond (.tmp 149) (.seq (.ops false [
⟨some 8, none, false, .mov (.const (.bool false))⟩]) .ret) .skip)))) (.ops false [
⟨some 83, none, false, .mov (.tmp 13)⟩,
⟨some 84, none, false, .bin .add (.tmp 83) (.const (.int .i64 1))⟩,
⟨some 13, none, false, .mov (.tmp 84)⟩])))))) (.seq (.seq (.ops true [
⟨some 150, none, false, .mov (.tmp 9)⟩,
⟨some 151, none, false, .len .sl (.tmp 150)⟩,
⟨some 152, none, false, .bin .gtr (.tmp 151) (.const (.int .i64 0))⟩,
⟨some 153, none, false, .mov (.tmp 152)⟩,
⟨some 154, some (153, true), false, .fld 0 (some 2) (.tmp 5)⟩,
⟨some 155, some (153, true), false, .mov (.tmp 9)⟩,
⟨some 156, some (153, true), false, .ixs 2 (.tmp 155) (.const (.int .i64 0))⟩,
⟨some 157, some (153, true), false, .ldn 2 (.tmp 156)⟩,
⟨some 158, some (153, true), false, .call (.func 31) [.tmp 154, .tmp 157]⟩,
⟨some 159, some (153, true), false, .una .not (.tmp 158)⟩,
⟨some 160, some (153, true), false, .mov (.tmp 159)⟩,
⟨some 161, some (160, false), false, .mov (.tmp 9)⟩,
⟨some 162, some (160, false), false, .mov (.tmp 9)⟩,
⟨some 163, some (160, false), false, .len .sl (.tmp 162)⟩,
⟨some 164, some (160, false), false, .bin .sub (.tmp 163) (.const (.int .i64 1))⟩,
⟨some 165, some (160, false), false, .ixs 2 (.tmp 161) (.tmp 164)⟩,
⟨some 166, some (160, false), false, .ldn 2 (.tmp 165)⟩,
⟨some 167, some (160, false), false, .fld 0 (some 2) (.tmp 6)⟩,
⟨some 168, some (160, false), false, .call (.func 31) [.tmp 166, .tmp 167]⟩,
⟨some 169, some (160, false), false, .una .not (.tmp 168)⟩,
⟨some 170, some (153, true), false, .pick (.tmp 160) (.const (.bool true)) (.tmp 169)⟩,
⟨some 171, none, false, .pick (.tmp 153) (.tmp 170) (.const (.bool false))⟩]) (.cond (.tmp 171) (.seq (.ops false [
⟨some 8, none, false, .mov (.const (.bool false))⟩]) .ret) .skip)) (.seq (.ops true [
⟨some 172, none, false, .fld 0 (some 0) (.tmp 5)⟩,
⟨some 173, none, false, .fld 0 none (.tmp 5)⟩,
⟨some 174, none, false, .fld 0 (some 0) (.tmp 6)⟩,
⟨some 175, none, false, .fld 0 none (.tmp 6)⟩,
⟨some 14, none, false, .mov (.tmp 173)⟩,
⟨some 15, none, false, .mov (.tmp 175)⟩]) (.seq (.seq (.ops false [
⟨some 176, none, false, .mov (.tmp 14)⟩,
⟨some 177, none, false, .mov (.tmp 15)⟩,
⟨some 178, none, false, .bin .gtr (.tmp 176) (.tmp 177)⟩]) (.cond (.tmp 178) (.ops false [
⟨some 179, none, false, .mov (.tmp 15)⟩,
⟨some 180, none, false, .mov (.tmp 14)⟩,
⟨some 14, none, false, .mov (.tmp 179)⟩,
⟨some 15, none, false, .mov (.tmp 180)⟩]) .skip)) (.seq (.seq (.ops false [
⟨some 181, none, false, .mov (.tmp 3)⟩,
⟨some 182, none, false, .mov (.tmp 14)⟩,
⟨some 183, none, false, .bin .lss (.tmp 181) (.tmp 182)⟩,
⟨some 184, none, false, .mov (.tmp 183)⟩,
⟨some 185, some (184, false), false, .mov (.tmp 3)⟩,
⟨some 186, some (184, false), false, .mov (.tmp 15)⟩,
⟨some 187, some (184, false), false, .bin .geq (.tmp 185) (.tmp 186)⟩,
⟨some 188, none, false, .pick (.tmp 184) (.const (.bool true)) (.tmp 187)⟩]) (.cond (.tmp 188) (.seq (.ops false [
⟨some 189, none, false, .call (.func 13) []⟩,
⟨some 8, none, false, .mov (.tmp 189)⟩]) .ret) .skip)) (.seq (.ops false [
⟨some 191, none, false, .fld 0 (some 4) (.tmp 4)⟩,
⟨some 192, none, false, .fld 0 (some 2) (.tmp 5)⟩,
⟨some 193, none, false, .fld 0 (some 2) (.tmp 6)⟩,
⟨some 194, none, false, .call (.func 24) [.tmp 191, .tmp 192, .tmp 193]⟩,
⟨some 190, none, false, .mov (.tmp 194)⟩,
⟨some 195, none, false, .ext (.tmp 190) 0⟩,
⟨some 196, none, false, .ext (.tmp 190) 1⟩,
⟨some 16, none, false, .mov (.tmp 195)⟩,
⟨some 17, none, false, .mov (.tmp 196)⟩]) (.seq (.ops false [
⟨some 198, none, false, .fld 0 (some 4) (.tmp 4)⟩,
⟨some 199, none, false, .mov (.tmp 14)⟩,
⟨some 200, none, false, .fld 0 (some 0) (.tmp 5)⟩,
⟨some 201, none, false, .fld 1 none (.tmp 5)⟩,
⟨some 202, none, false, .bld [.int .i64 0, .int .i64 0] [(0, 1, .tmp 199), (1, 1, .tmp 201)]⟩,
⟨some 203, none, false, .mov (.tmp 3)⟩,
⟨some 204, none, false, .fld 0 (some 0) (.tmp 6)⟩,
⟨some 205, none, false, .fld 1 none (.tmp 6)⟩,
⟨some 206, none, false, .bld [.int .i64 0, .int .i64 0] [(0, 1, .tmp 203), (1, 1, .tmp 205)]⟩,
⟨some 207, none, false, .call (.func 24) [.tmp 198, .tmp 202, .tmp 206]⟩,
⟨some 197, none, false, .mov (.tmp 207)⟩,
⟨some 208, none, false, .ext (.tmp 197) 0⟩,
⟨some 209, none, false, .ext (.tmp 197) 1⟩,
⟨some 18, none, false, .mov (.tmp 208)⟩,
⟨some 19, none, false, .mov (.tmp 209)⟩]) (.seq (.ops false [
⟨some 211, none, false, .fld 0 (some 4) (.tmp 4)⟩,
⟨some 212, none, false, .mov (.tmp 3)⟩,
⟨some 213, none, false, .bin .add (.tmp 212) (.const (.int .i64 1))⟩,
⟨some 214, none, false, .fld 0 (some 0) (.tmp 5)⟩,
⟨some 215, none, false, .fld 1 none (.tmp 5)⟩,
⟨some 216, none, false, .bld [.int .i64 0, .int .i64 0] [(0, 1, .tmp 213), (1, 1, .tmp 215)]⟩,
⟨some 217, none, false, .mov (.tmp 15)⟩,
⟨some 218, none, false, .fld 0 (some 0) (.tmp 6)⟩,
⟨some 219, none, false, .fld 1 none (.tmp 6)⟩,
⟨some 220, none, false, .bld [.int .i64 0, .int .i64 0] [(0, 1, .tmp 217), (1, 1, .tmp 219)]⟩,
⟨some 221, none, false, .call (.func 24) [.tmp 211, .tmp 216, .tmp 220]⟩,
⟨some 210, none, false, .mov (.tmp 221)⟩,
⟨some 222, none, false, .ext (.tmp 210) 0⟩,
⟨some 223, none, false, .ext (.tmp 210) 1⟩,
⟨some 20, none, false, .mov (.tmp 222)⟩,
⟨some 21, none, false, .mov (.tmp 223)⟩]) (.seq (.ops false [
⟨some 225, none, false, .fld 0 (some 4) (.tmp 4)⟩,
⟨some 226, none, false, .mov (.tmp 16)⟩,
⟨some 227, none, false, .call (.func 28) [.tmp 225, .tmp 226]⟩,
⟨some 224, none, false, .mov (.tmp 227)⟩,
⟨some 228, none, false, .ext (.tmp 224) 0⟩,
⟨some 229, none, false, .ext (.tmp 224) 1⟩,
⟨some 22, none, false, .mov (.tmp 228)⟩,
⟨some 23, none, false, .mov (.tmp 229)⟩]) (.seq (.ops false [
⟨some 231, none, false, .fld 0 (some 4) (.tmp 4)⟩,
⟨some 232, none, false, .mov (.tmp 18)⟩,
⟨some 233, none, false, .call (.func 28) [.tmp 231, .tmp 232]⟩,
⟨some 230, none, false, .mov (.tmp 233)⟩,
⟨some 234, none, false, .ext (.tmp 230) 0⟩,
⟨some 235, none, false, .ext (.tmp 230) 1⟩,
⟨some 24, none, false, .mov (.tmp 234)⟩,
⟨some 25, none, false, .mov (.tmp 235)⟩]) (.seq (.ops false [
⟨some 237, none, false, .fld 0 (some 4) (.tmp 4)⟩,
⟨some 238, none, false, .mov (.tmp 20)⟩,
⟨some 239, none, false, .call (.func 28) [.tmp 237, .tmp 238]⟩,
⟨some 236, none, false, .mov (.tmp 239)⟩,
⟨some 240, none, false, .ext (.tmp 236) 0⟩,
⟨some 241, none, false, .ext (.tmp 236) 1⟩,
⟨some 26, none, false, .mov (.tmp 240)⟩,
⟨some 27, none, false, .mov (.tmp 241)⟩]) (.seq (.ops false [
⟨some 242, none, false, .mov (.tmp 17)⟩,
⟨some 243, none, false, .bin .eql (.tmp 242) (.const (.int .i64 0))⟩,
⟨some 244, none, false, .mov (.tmp 243)⟩,
⟨some 245, some (244, true), false, .mov (.tmp 19)⟩,
⟨some 246, some (244, true), false, .bin .eql (.tmp 245) (.const (.int .i64 0))⟩,
⟨some 247, none, false, .pick (.tmp 244) (.tmp 246) (.const (.bool false))⟩,
⟨some 248, none, false, .mov (.tmp 247)⟩,
⟨some 249, some (248, true), false, .mov (.tmp 21)⟩,
⟨some 250, some (248, true), false, .bin .eql (.tmp 249) (.const (.int .i64 0))⟩,
⟨some 251, none, false, .pick (.tmp 248) (.tmp 250) (.const (.bool false))⟩,
⟨some 252, none, false, .mov (.tmp 251)⟩,
⟨some 253, some (252, true), false, .mov (.tmp 23)⟩,
⟨some 254, some (252, true), false, .bin .eql (.tmp 253) (.const (.int .i64 0))⟩,
⟨some 255, none, false, .pick (.tmp 252) (.tmp 254) (.const (.bool false))⟩,
⟨some 256, none, false, .mov (.tmp 255)⟩,
⟨some 257, some (256, true), false, .mov (.tmp 25)⟩,
⟨some 258, some (256, true), false, .bin .eql (.tmp 257) (.const (.int .i64 0))⟩,
⟨some 259, none, false, .pick (.tmp 256) (.tmp 258) (.const (.bool false))⟩,
⟨some 260, none, false, .mov (.tmp 259)⟩,
⟨some 261, some (260, true), false, .mov (.tmp 27)⟩,
⟨some 262, some (260, true), false, .bin .eql (.tmp 261) (.const (.int .i64 0))⟩,
⟨some 263, none, false, .pick (.tmp 260) (.tmp 262) (.const (.bool false))⟩,
⟨some 264, none, false, .mov (.tmp 263)⟩,
⟨some 265, some (264, true), false, .mov (.tmp 16)⟩,
⟨some 266, some (264, true), false, .len .sl (.tmp 265)⟩,
⟨some 267, some (264, true), false, .mov (.tmp 18)⟩,
⟨some 268, some (264, true), false, .len .sl (.tmp 267)⟩,
⟨some 269, some (264, true), false, .mov (.tmp 20)⟩,
⟨some 270, some (264, true), false, .len .sl (.tmp 269)⟩,
⟨some 271, some (264, true), false, .bin .add (.tmp 268) (.tmp 270)⟩,
⟨some 272, some (264, true), false, .bin .eql (.tmp 266) (.tmp 271)⟩,
⟨some 273, none, false, .pick (.tmp 264) (.tmp 272) (.const (.bool false))⟩,
⟨some 274, none, false, .mov (.tmp 273)⟩,
⟨some 275, some (274, true), false, .mov (.tmp 22)⟩,
⟨some 276, some (274, true), false, .mov (.tmp 24)⟩,
⟨some 277, some (274, true), false, .mov (.tmp 26)⟩,
⟨some 278, some (274, true), false, .bin .add (.tmp 276) (.tmp 277)⟩,
⟨some 279, some (274, true), false, .bin .eql (.tmp 275) (.tmp 278)⟩,
⟨some 280, none, false, .pick (.tmp 274) (.tmp 279) (.const (.bool false))⟩,
⟨some 281, none, false, .mov (.tmp 280)⟩,
⟨some 282, some (281, true), false, .call (.func 13) []⟩,
⟨some 283, none, false, .pick (.tmp 281) (.tmp 282) (.const (.bool false))⟩,
⟨some 8, none, false, .mov (.tmp 283)⟩]) .ret))))))))))))))))) }
theorem pr8 : promFn 0 ⟨284, [4, 5, 6], [172, 174, 200, 204, 214, 218]⟩ ic8 = some ip8 := by kernel_rfl
/-- bandplan/bandplanlaw10.TerrainCells, with registers -/
def ip9 : IFn := { ntmps := 156, results := [.tmp 6], code := (.seq (.ops false [
⟨some 3, none, false, .mov (.const undef)⟩,
⟨some 4, none, false, .mov (.const undef)⟩,
⟨some 14, none, false, .mov (.const undef)⟩,
⟨some 3, none, false, .regb 4 (.tmp 0)⟩,
⟨some 4, none, false, .regb 2 (.tmp 1)⟩,
⟨some 6, none, false, .mov (.const (.bool false))⟩]) (.seq (.seq (.ops false [
⟨some 17, none, false, .fld 0 (some 4) (.tmp 3)⟩,
⟨some 18, none, false, .call (.func 16) [.tmp 17]⟩]) (.cond (.tmp 18) (.seq (.ops false [
⟨some 19, none, false, .call (.func 13) []⟩,
⟨some 6, none, false, .mov (.tmp 19)⟩]) .ret) .skip)) (.seq (.ops false [
⟨some 20, none, false, .fld 0 (some 4) (.tmp 3)⟩,
⟨some 21, none, false, .fld 0 (some 2) (.tmp 4)⟩,
⟨some 22, none, false, .call (.func 18) [.tmp 20, .tmp 21]⟩,
⟨some 7, none, false, .mov (.tmp 22)⟩]) (.seq (.ops false [
⟨some 24, none, false, .fld 0 (some 4) (.tmp 3)⟩,
⟨some 25, none, false, .fld 0 (some 2) (.tmp 4)⟩,
⟨some 26, none, false, .call (.func 33) [.tmp 24, .tmp 25]⟩,
⟨some 23, none, false, .mov (.tmp 26)⟩,
⟨some 27, none, false, .ext (.tmp 23) 0⟩,
⟨some 28, none, false, .ext (.tmp 23) 1⟩,
⟨some 8, none, false, .mov (.tmp 27)⟩,
⟨some 9, none, false, .mov (.tmp 28)⟩]) (.seq (.ops false [
⟨some 30, none, false, .fld 0 (some 4) (.tmp 3)⟩,
⟨some 31, none, false, .fld 0 (some 2) (.tmp 4)⟩,
⟨some 32, none, false, .call (.func 34) [.tmp 30, .tmp 31]⟩,
⟨some 29, none, false, .mov (.tmp 32)⟩,
⟨some 33, none, false, .ext (.tmp 29) 0⟩,
⟨some 34, none, false, .ext (.tmp 29) 1⟩,
⟨some 10, none, false, .mov (.tmp 33)⟩,
⟨some 11, none, false, .mov (.tmp 34)⟩]) (.seq (.ops false [
⟨some 36, none, false, .fld 0 (some 4) (.tmp 3)⟩,
⟨some 37, none, false, .fld 0 (some 2) (.tmp 4)⟩,
⟨some 38, none, false, .call (.func 35) [.tmp 36, .tmp 37]⟩,
⟨some 35, none, false, .mov (.tmp 38)⟩,
⟨some 39, none, false, .ext (.tmp 35) 0⟩,
⟨some 40, none, false, .ext (.tmp 35) 1⟩,
⟨some 12, none, false, .mov (.tmp 39)⟩,
⟨some 13, none, false, .mov (.tmp 40)⟩]) (.seq (.ops false [
⟨some 42, none, false, .fld 0 (some 4) (.tmp 3)⟩,
⟨some 43, none, false, .mov (.tmp 2)⟩,
⟨some 44, none, false, .call (.func 36) [.tmp 42, .tmp 43]⟩,
⟨some 41, none, false, .mov (.tmp 44)⟩,
⟨some 45, none, false, .ext (.tmp 41) 0⟩,
⟨some 46, none, false, .ext (.tmp 41) 1⟩,
⟨some 14, none, false, .reg [.int .i64 0, .int .i64 0]⟩,
⟨some 14, none, false, .upd 0 2 (.tmp 14) (.tmp 45)⟩,
⟨some 15, none, false, .mov (.tmp 46)⟩]) (.seq (.seq (.ops true [
⟨some 47, none, false, .fld 0 (some 4) (.tmp 3)⟩,
⟨some 48, none, true, .call (.func 15) [.tmp 47]⟩,
⟨some 49, none, false, .fld 0 (some 4) (.tmp 3)⟩,
⟨some 50, none, false, .call (.func 29) [.tmp 49]⟩,
⟨some 51, none, false, .eq .bool true (.tmp 48) (.tmp 50)⟩,
⟨some 52, none, false, .mov (.tmp 51)⟩,
⟨some 53, some (52, false), false, .fld 0 (some 4) (.tmp 3)⟩,
⟨some 54, some (52, false), false, .fld 0 (some 2) (.tmp 4)⟩,
⟨some 55, some (52, false), false, .call (.func 32) [.tmp 53, .tmp 54]⟩,
⟨some 56, some (52, false), false, .mov (.tmp 7)⟩,
⟨some 57, some (52, false), false, .eq .bool true (.tmp 55) (.tmp 56)⟩,
⟨some 58, none, false, .pick (.tmp 52) (.const (.bool true)) (.tmp 57)⟩]) (.cond (.tmp 58) (.seq (.ops false [
⟨some 6, none, false, .mov (.const (.bool false))⟩]) .ret) .skip)) (.seq (.seq (.ops false [
⟨some 59, none, false, .mov (.tmp 7)⟩]) (.cond (.tmp 59) (.seq (.ops false [
⟨some 60, none, false, .fld 0 (some 4) (.tmp 3)⟩,
⟨some 61, none, false, .fld 0 (some 2) (.tmp 4)⟩,
⟨some 62, none, false, .call (.func 37) [.tmp 60, .tmp 61]⟩,
⟨some 16, none, false, .mov (.tmp 62)⟩]) (.seq (.ops false [
⟨some 63, none, false, .mov (.tmp 8)⟩,
⟨some 64, none, false, .mov (.tmp 16)⟩,
⟨some 65, none, false, .bin .neq (.tmp 63) (.tmp 64)⟩,
⟨some 66, none, false, .mov (.tmp 65)⟩,
⟨some 67, some (66, false), false, .mov (.tmp 9)⟩,
⟨some 68, some (66, false), false, .bin .neq (.tmp 67) (.const (.int .i64 0))⟩,
⟨some 69, none, false, .pick (.tmp 66) (.const (.bool true)) (.tmp 68)⟩,
⟨some 70, none, false, .mov (.tmp 69)⟩,
⟨some 71, some (70, false), false, .mov (.tmp 10)⟩,
⟨some 72, some (70, false), false, .fld 0 (some 0) (.tmp 3)⟩,
⟨some 73, some (70, false), false, .fld 2 none (.tmp 3)⟩,
⟨some 74, some (70, false), false, .mov (.tmp 16)⟩,
⟨some 75, some (70, false), false, .ixs 1 (.tmp 73) (.tmp 74)⟩,
⟨some 76, some (70, false), false, .ld1 (.tmp 75)⟩,
⟨some 77, some (70, false), false, .bin .neq (.tmp 71) (.tmp 76)⟩,
⟨some 78, none, false, .pick (.tmp 70) (.const (.bool true)) (.tmp 77)⟩,
⟨some 79, none, false, .mov (.tmp 78)⟩,
⟨some 80, some (79, false), false, .mov (.tmp 11)⟩,
⟨some 81, some (79, false), false, .bin .neq (.tmp 80) (.const (.int .i64 0))⟩,
⟨some 82, none, false, .pick (.tmp 79) (.const (.bool true)) (.tmp 81)⟩,
⟨some 83, none, false, .mov (.tmp 82)⟩,
⟨some 84, some (83, false), false, .mov (.tmp 12)⟩,
⟨some 85, some (83, false), false, .fld 0 (some 0) (.tmp 3)⟩,
⟨some 86, some (83, false), false, .fld 3 none (.tmp 3)⟩,
⟨some 87, some (83, false), false, .mov (.tmp 16)⟩,
⟨some 88, some (83, false), false, .ixs 1 (.tmp 86) (.tmp 87)⟩,
⟨some 89, some (83, false), false, .ld1 (.tmp 88)⟩,
⟨some 90, some (83, false), false, .bin .neq (.tmp 84) (.tmp 89)⟩,
⟨some 91, none, false, .pick (.tmp 83) (.const (.bool true)) (.tmp 90)⟩,
⟨some 92, none, false, .mov (.tmp 91)⟩,
⟨some 93, some (92, false), false, .mov (.tmp 13)⟩,
⟨some 94, some (92, false), false, .bin .neq (.tmp 93) (.const (.int .i64 0))⟩,
⟨some 95, none, false, .pick (.tmp 92) (.const (.bool true)) (.tmp 94)⟩]) (.cond (.tmp 95) (.seq (.ops false [
⟨some 6, none, false, .mov (.const (.bool false))⟩]) .ret) .skip))) (.seq (.ops false [
⟨some 96, none, false, .mov (.tmp 8)⟩,
⟨some 97, none, false, .bin .neq (.tmp 96) (.const (.int .i64 0))⟩,
⟨some 98, none, false, .mov (.tmp 97)⟩,
⟨some 99, some (98, false), false, .mov (.tmp 9)⟩,
⟨some 100, some (98, false), false, .bin .neq (.tmp 99) (.const (.int .i64 2))⟩,
⟨some 101, none, false, .pick (.tmp 98) (.const (.bool true)) (.tmp 100)⟩,
⟨some 102, none, false, .mov (.tmp 101)⟩,
⟨some 103, some (102, false), false, .mov (.tmp 10)⟩,
⟨some 104, some (102, false), false, .bin .neq (.tmp 103) (.const (.int .i64 0))⟩,
⟨some 105, none, false, .pick (.tmp 102) (.const (.bool true)) (.tmp 104)⟩,
⟨some 106, none, false, .mov (.tmp 105)⟩,
⟨some 107, some (106, false), false, .mov (.tmp 11)⟩,
⟨some 108, some (106, false), false, .bin .neq (.tmp 107) (.const (.int .i64 2))⟩,
⟨some 109, none, false, .pick (.tmp 106) (.const (.bool true)) (.tmp 108)⟩,
⟨some 110, none, false, .mov (.tmp 109)⟩,
⟨some 111, some (110, false), false, .mov (.tmp 12)⟩,
⟨some 112, some (110, false), false, .bin .neq (.tmp 111) (.const (.int .i64 0))⟩,
⟨some 113, none, false, .pick (.tmp 110) (.const (.bool true)) (.tmp 112)⟩,
⟨some 114, none, false, .mov (.tmp 113)⟩,
⟨some 115, some (114, false), false, .mov (.tmp 13)⟩,
⟨some 116, some (114, false), false, .bin .neq (.tmp 115) (.const (.int .i64 2))⟩,
⟨some 117, none, false, .pick (.tmp 114) (.const (.bool true)) (.tmp 116)⟩]) (.cond (.tmp 117) (.seq (.ops false [
⟨some 6, none, false, .mov (.const (.bool false))⟩]) .ret) .skip)))) (.seq (.seq (.ops false [
⟨some 118, none, false, .fld 0 (some 4) (.tmp 3)⟩,
⟨some 119, none, false, .call (.func 29) [.tmp 118]⟩,
⟨some 120, none, false, .una .not (.tmp 119)⟩,
⟨some 121, none, false, .mov (.tmp 120)⟩,
⟨some 122, some (121, false), false, .mov (.tmp 2)⟩,
⟨some 123, some (121, false), false, .bin .lss (.tmp 122) (.const (.int .i64 0))⟩,
⟨some 124, none, false, .pick (.tmp 121) (.const (.bool true)) (.tmp 123)⟩,
⟨some 125, none, false, .mov (.tmp 124)⟩,
⟨some 126, some (125, false), false, .mov (.tmp 2)⟩,
⟨some 127, some (125, false), false, .fld 0 (some 0) (.tmp 3)⟩,
⟨some 128, some (125, false), false, .fld 0 none (.tmp 3)⟩,
⟨some 129, some (125, false), false, .fld 0 (some 0) (.tmp 3)⟩,
⟨some 130, some (125, false), false, .fld 1 none (.tmp 3)⟩,
⟨some 131, some (125, false), false, .bin .mul (.tmp 128) (.tmp 130)⟩,
⟨some 132, some (125, false), false, .bin .geq (.tmp 126) (.tmp 131)⟩,
⟨some 133, none, false, .pick (.tmp 125) (.const (.bool true)) (.tmp 132)⟩]) (.cond (.tmp 133) (.seq (.ops false [
⟨some 134, none, false, .fld 0 (some 2) (.tmp 14)⟩,
⟨some 135, none, false, .bld [.int .i64 0, .int .i64 0] []⟩,
⟨some 136, none, false, .eq (.flat [.i, .i]) false (.tmp 134) (.tmp 135)⟩,
⟨some 137, none, false, .mov (.tmp 136)⟩,
⟨some 138, some (137, true), false, .mov (.tmp 15)⟩,
⟨some 139, some (137, true), false, .bin .eql (.tmp 138) (.const (.int .i64 2))⟩,
⟨some 140, none, false, .pick (.tmp 137) (.tmp 139) (.const (.bool false))⟩,
⟨some 141, none, false, .mov (.tmp 140)⟩,
⟨some 142, some (141, true), false, .call (.func 13) []⟩,
⟨some 143, none, false, .pick (.tmp 141) (.tmp 142) (.const (.bool false))⟩,
⟨some 6, none, false, .mov (.tmp 143)⟩]) .ret) .skip)) (.seq (.ops true [
⟨some 144, none, false, .fld 0 (some 2) (.tmp 14)⟩,
⟨some 145, none, false, .fld 0 (some 4) (.tmp 3)⟩,
⟨some 146, none, false, .mov (.tmp 2)⟩,
⟨some 147, none, true, .call (.func 38) [.tmp 145, .tmp 146]⟩,
⟨some 148, none, false, .eq (.flat [.i, .i]) false (.tmp 144) (.tmp 147)⟩,
⟨some 149, none, false, .mov (.tmp 148)⟩,
⟨some 150, some (149, true), false, .mov (.tmp 15)⟩,
⟨some 151, some (149, true), false, .bin .eql (.tmp 150) (.const (.int .i64 0))⟩,
⟨some 152, none, false, .pick (.tmp 149) (.tmp 151) (.const (.bool false))⟩,
⟨some 153, none, false, .mov (.tmp 152)⟩,
⟨some 154, some (153, true), false, .call (.func 13) []⟩,
⟨some 155, none, false, .pick (.tmp 153) (.tmp 154) (.const (.bool false))⟩,
⟨some 6, none, false, .mov (.tmp 155)⟩]) .ret))))))))))) }
theorem pr9 : promFn 0 ⟨156, [3, 4, 14], [72, 85, 127, 129]⟩ ic9 = some ip9 := by kernel_rfl
/-- bandplan/bandplanlaw10.TerrainCopies, with registers -/
def ip10 : IFn := { ntmps := 82, results := [.tmp 4], code := (.seq (.ops false [
⟨some 2, none, false, .mov (.const undef)⟩,
⟨some 3, none, false, .mov (.const undef)⟩,
⟨some 5, none, false, .mov (.const undef)⟩,
⟨some 6, none, false, .mov (.const undef)⟩,
⟨some 2, none, false, .regb 4 (.tmp 0)⟩,
⟨some 3, none, false, .regb 4 (.tmp 1)⟩,
⟨some 4, none, false, .mov (.const (.bool false))⟩]) (.seq (.seq (.ops false [
⟨some 9, none, false, .fld 0 (some 4) (.tmp 2)⟩,
⟨some 10, none, false, .call (.func 16) [.tmp 9]⟩,
⟨some 11, none, false, .mov (.tmp 10)⟩,
⟨some 12, some (11, false), false, .fld 0 (some 4) (.tmp 3)⟩,
⟨some 13, some (11, false), false, .call (.func 16) [.tmp 12]⟩,
⟨some 14, none, false, .pick (.tmp 11) (.const (.bool true)) (.tmp 13)⟩]) (.cond (.tmp 14) (.seq (.ops false [
⟨some 15, none, false, .call (.func 13) []⟩,
⟨some 4, none, false, .mov (.tmp 15)⟩]) .ret) .skip)) (.seq (.seq (.ops true [
⟨some 16, none, false, .fld 0 (some 4) (.tmp 2)⟩,
⟨some 17, none, false, .fld 0 (some 4) (.tmp 3)⟩,
⟨some 18, none, true, .call (.func 39) [.tmp 16, .tmp 17]⟩,
⟨some 19, none, false, .fld 0 (some 4) (.tmp 2)⟩,
⟨some 20, none, false, .fld 0 (some 4) (.tmp 3)⟩,
⟨some 21, none, false, .call (.func 12) [.tmp 19, .tmp 20]⟩,
⟨some 22, none, false, .eq .bool true (.tmp 18) (.tmp 21)⟩,
⟨some 23, none, false, .mov (.tmp 22)⟩,
⟨some 24, some (23, false), false, .fld 0 (some 4) (.tmp 2)⟩,
⟨some 25, some (23, false), false, .fld 0 (some 4) (.tmp 2)⟩,
⟨some 26, some (23, false), false, .call (.func 39) [.tmp 24, .tmp 25]⟩,
⟨some 27, some (23, false), false, .una .not (.tmp 26)⟩,
⟨some 28, none, false, .pick (.tmp 23) (.const (.bool true)) (.tmp 27)⟩]) (.cond (.tmp 28) (.seq (.ops false [
⟨some 4, none, false, .mov (.const (.bool false))⟩]) .ret) .skip)) (.seq (.ops true [
⟨some 29, none, false, .fld 0 (some 0) (.tmp 2)⟩,
⟨some 30, none, false, .fld 0 none (.tmp 2)⟩,
⟨some 31, none, false, .fld 0 (some 0) (.tmp 2)⟩,
⟨some 32, none, false, .fld 1 none (.tmp 2)⟩,
⟨some 33, none, false, .bsl 0 [] []⟩,
⟨some 34, none, false, .fld 0 (some 0) (.tmp 2)⟩,
⟨some 35, none, false, .fld 2 none (.tmp 2)⟩,
⟨some 36, none, true, .app 1 8 (.tmp 33) (.tmp 35)⟩,
⟨some 37, none, false, .bsl 0 [] []⟩,
⟨some 38, none, false, .fld 0 (some 0) (.tmp 2)⟩,
⟨some 39, none, false, .fld 3 none (.tmp 2)⟩,
⟨some 40, none, true, .app 1 8 (.tmp 37) (.tmp 39)⟩,
⟨some 41, none, false, .bld [.int .i64 0, .int .i64 0, .slice none 0 0, .slice none 0 0] [(0, 1, .tmp 30), (1, 1, .tmp 32), (2, 1, .tmp 36), (3, 1, .tmp 40)]⟩,
⟨some 5, none, false, .reg [.int .i64 0, .int .i64 0, .slice none 0 0, .slice none 0 0]⟩,
⟨some 5, none, false, .upd 0 4 (.tmp 5) (.tmp 41)⟩]) (.seq (.ops false [
⟨some 42, none, false, .fld 0 (some 4) (.tmp 2)⟩,
⟨some 43, none, false, .call (.func 40) [.tmp 42]⟩,
⟨some 6, none, false, .reg [.int .i64 0, .int .i64 0, .slice none 0 0, .slice none 0 0]⟩,
⟨some 6, none, false, .upd 0 4 (.tmp 6) (.tmp 43)⟩]) (.seq (.seq (.ops false [
⟨some 44, none, false, .fld 0 (some 4) (.tmp 6)⟩,
⟨some 45, none, false, .fld 0 (some 4) (.tmp 2)⟩,
⟨some 46, none, false, .call (.func 12) [.tmp 44, .tmp 45]⟩,
⟨some 47, none, false, .una .not (.tmp 46)⟩]) (.cond (.tmp 47) (.seq (.ops false [
⟨some 4, none, false, .mov (.const (.bool false))⟩]) .ret) .skip)) (.seq (.seq (.ops false [
⟨some 7, none, false, .mov (.const (.int .i64 0))⟩]) (.block 0 (.loop (.seq (.seq (.ops false [
⟨some 48, none, false, .mov (.tmp 7)⟩,
⟨some 49, none, false, .fld 0 (some 0) (.tmp 6)⟩,
⟨some 50, none, false, .fld 2 none (.tmp 6)⟩,
⟨some 51, none, false, .len .sl (.tmp 50)⟩,
⟨some 52, none, false, .bin .lss (.tmp 48) (.tmp 51)⟩]) (.cond (.tmp 52) .skip (.exit 0))) (.seq (.block 1 (.ops false [
⟨some 55, none, false, .fld 0 (some 0) (.tmp 6)⟩,
⟨some 56, none, false, .fld 2 none (.tmp 6)⟩,
⟨some 57, none, false, .mov (.tmp 7)⟩,
⟨some 58, none, false, .ixs 1 (.tmp 56) (.tmp 57)⟩,
⟨some 59, none, false, .ld1 (.tmp 58)⟩,
⟨some 60, none, false, .bin .add (.tmp 59) (.const (.int .i64 1))⟩,
⟨some 61, none, false, .ixs 1 (.tmp 56) (.tmp 57)⟩,
⟨none, none, false, .sto 1 (.tmp 61) (.tmp 60)⟩])) (.ops false [
⟨some 53, none, false, .mov (.tmp 7)⟩,
⟨some 54, none, false, .bin .add (.tmp 53) (.const (.int .i64 1))⟩,
⟨some 7, none, false, .mov (.tmp 54)⟩])))))) (.seq (.seq (.ops false [
⟨some 8, none, false, .mov (.const (.int .i64 0))⟩]) (.block 2 (.loop (.seq (.seq (.ops false [
⟨some 62, none, false, .mov (.tmp 8)⟩,
⟨some 63, none, false, .fld 0 (some 0) (.tmp 6)⟩,
⟨some 64, none, false, .fld 3 none (.tmp 6)⟩,
⟨some 65, none, false, .len .sl (.tmp 64)⟩,
⟨some 66, none, false, .bin .lss (.tmp 62) (.tmp 65)⟩]) (.cond (.tmp 66) .skip (.exit 2))) (.seq (.block 3 (.ops false [
⟨some 69, none, false, .fld 0 (some 0) (.tmp 6)⟩,
⟨some 70, none, false, .fld 3 none (.tmp 6)⟩,
⟨some 71, none, false, .mov (.tmp 8)⟩,
⟨some 72, none, false, .ixs 1 (.tmp 70) (.tmp 71)⟩,
⟨some 73, none, false, .ld1 (.tmp 72)⟩,
⟨some 74, none, false, .bin .add (.tmp 73) (.const (.int .i64 1))⟩,
⟨some 75, none, false, .ixs 1 (.tmp 70) (.tmp 71)⟩,
⟨none, none, false, .sto 1 (.tmp 75) (.tmp 74)⟩])) (.ops false [
⟨some 67, none, false, .mov (.tmp 8)⟩,
⟨some 68, none, false, .bin .add (.tmp 67) (.const (.int .i64 1))⟩,
⟨some 8, none, false, .mov (.tmp 68)⟩])))))) (.seq (.ops false [
⟨some 76, none, false, .fld 0 (some 4) (.tmp 2)⟩,
⟨some 77, none, false, .fld 0 (some 4) (.tmp 5)⟩,
⟨some 78, none, false, .call (.func 12) [.tmp 76, .tmp 77]⟩,
⟨some 79, none, false, .mov (.tmp 78)⟩,
⟨some 80, some (79, true), false, .call (.func 13) []⟩,
⟨some 81, none, false, .pick (.tmp 79) (.tmp 80) (.const (.bool false))⟩,
⟨some 4, none, false, .mov (.tmp 81)⟩]) .ret))))))))) }
theorem pr10 : promFn 0 ⟨82, [2, 3, 5, 6], [29, 31, 34, 38, 49, 55, 63, 69]⟩ ic10 = some ip10 := by kernel_rfl
/-- bandplan/terrain.Flat, with registers -/
def ip11 : IFn := { ntmps := 40, results := [.rega 8 4, .tmp 9], code := (.seq (.ops false [
⟨some 8, none, false, .mov (.const undef)⟩,
⟨some 11, none, false, .mov (.const undef)⟩,
⟨some 8, none, false, .reg [.int .i64 0, .int .i64 0, .slice none 0 0, .slice none 0 0]⟩,
⟨some 9, none, false, .mov (.const (.int .i64 0))⟩]) (.seq (.seq (.ops false [
⟨some 12, none, false, .mov (.tmp 0)⟩,
⟨some 13, none, false, .call (.func 41) [.const (.int .i64 1), .tmp 12, .const (.int .i64 64)]⟩,
⟨some 14, none, false, .una .not (.tmp 13)⟩,
⟨some 15, none, false, .mov (.tmp 14)⟩,
⟨some 16, some (15, false), false, .mov (.tmp 1)⟩,
⟨some 17, some (15, false), false, .call (.func 41) [.const (.int .i64 1), .tmp 16, .const (.int .i64 64)]⟩,
⟨some 18, some (15, false), false, .una .not (.tmp 17)⟩,
⟨some 19, none, false, .pick (.tmp 15) (.const (.bool true)) (.tmp 18)⟩]) (.cond (.tmp 19) (.seq (.ops false [
⟨some 20, none, false, .bld [.int .i64 0, .int .i64 0, .slice none 0 0, .slice none 0 0] []⟩,
⟨some 8, none, false, .upd 0 4 (.tmp 8) (.tmp 20)⟩,
⟨some 9, none, false, .mov (.const (.int .i64 2))⟩]) .ret) .skip)) (.seq (.ops false [
⟨some 21, none, false, .mov (.tmp 0)⟩,
⟨some 22, none, false, .mov (.tmp 1)⟩,
⟨some 23, none, false, .bin .mul (.tmp 21) (.tmp 22)⟩,
⟨some 10, none, false, .mov (.tmp 23)⟩]) (.seq (.ops false [
⟨some 24, none, false, .mov (.tmp 0)⟩,
⟨some 25, none, false, .mov (.tmp 1)⟩,
⟨some 26, none, false, .mov (.tmp 2)⟩,
⟨some 27, none, false, .bsl 1 [.int .i64 0] [(0, 1, .tmp 26)]⟩,
⟨some 28, none, false, .mov (.tmp 10)⟩,
⟨some 29, none, false, .call (.func 42) [.tmp 27, .tmp 28]⟩,
⟨some 30, none, false, .mov (.tmp 3)⟩,
⟨some 31, none, false, .bsl 1 [.int .i64 0] [(0, 1, .tmp 30)]⟩,
⟨some 32, none, false, .mov (.tmp 10)⟩,
⟨some 33, none, false, .call (.func 42) [.tmp 31, .tmp 32]⟩,
⟨some 34, none, false, .bld [.int .i64 0, .int .i64 0, .slice none 0 0, .slice none 0 0] [(0, 1, .tmp 24), (1, 1, .tmp 25), (2, 1, .tmp 29), (3, 1, .tmp 33)]⟩,
⟨some 11, none, false, .reg [.int .i64 0, .int .i64 0, .slice none 0 0, .slice none 0 0]⟩,
⟨some 11, none, false, .upd 0 4 (.tmp 11) (.tmp 34)⟩]) (.seq (.seq (.ops false [
⟨some 35, none, false, .fld 0 (some 4) (.tmp 11)⟩,
⟨some 36, none, false, .call (.func 15) [.tmp 35]⟩,
⟨some 37, none, false, .una .not (.tmp 36)⟩]) (.cond (.tmp 37) (.seq (.ops false [
⟨some 38, none, false, .bld [.int .i64 0, .int .i64 0, .slice none 0 0, .slice none 0 0] []⟩,
⟨some 8, none, false, .upd 0 4 (.tmp 8) (.tmp 38)⟩,
⟨some 9, none, false, .mov (.const (.int .i64 2))⟩]) .ret) .skip)) (.seq (.ops false [
⟨some 39, none, false, .fld 0 (some 4) (.tmp 11)⟩,
⟨some 8, none, false, .upd 0 4 (.tmp 8) (.tmp 39)⟩,
⟨some 9, none, false, .mov (.const (.int .i64 0))⟩]) .ret)))))) }
theorem pr11 : promFn 0 ⟨40, [8, 11], []⟩ ic11 = some ip11 := by kernel_rfl
/-- bandplan/bandplanref10.Equal, with registers -/
def ip12 : IFn := { ntmps := 73, results := [.tmp 4], code := (.seq (.ops false [
⟨some 2, none, false, .mov (.const undef)⟩,
⟨some 3, none, false, .mov (.const undef)⟩,
⟨some 2, none, false, .regb 4 (.tmp 0)⟩,
⟨some 3, none, false, .regb 4 (.tmp 1)⟩,
⟨some 4, none, false, .mov (.const (.bool false))⟩]) (.seq (.seq (.ops false [
⟨some 7, none, false, .fld 0 (some 0) (.tmp 2)⟩,
⟨some 8, none, false, .fld 0 none (.tmp 2)⟩,
⟨some 9, none, false, .fld 0 (some 0) (.tmp 3)⟩,
⟨some 10, none, false, .fld 0 none (.tmp 3)⟩,
⟨some 11, none, false, .bin .neq (.tmp 8) (.tmp 10)⟩,
⟨some 12, none, false, .mov (.tmp 11)⟩,
⟨some 13, some (12, false), false, .fld 0 (some 0) (.tmp 2)⟩,
⟨some 14, some (12, false), false, .fld 1 none (.tmp 2)⟩,
⟨some 15, some (12, false), false, .fld 0 (some 0) (.tmp 3)⟩,
⟨some 16, some (12, false), false, .fld 1 none (.tmp 3)⟩,
⟨some 17, some (12, false), false, .bin .neq (.tmp 14) (.tmp 16)⟩,
⟨some 18, none, false, .pick (.tmp 12) (.const (.bool true)) (.tmp 17)⟩,
⟨some 19, none, false, .mov (.tmp 18)⟩,
⟨some 20, some (19, false), false, .fld 0 (some 0) (.tmp 2)⟩,
⟨some 21, some (19, false), false, .fld 2 none (.tmp 2)⟩,
⟨some 22, some (19, false), false, .len .sl (.tmp 21)⟩,
⟨some 23, some (19, false), false, .fld 0 (some 0) (.tmp 3)⟩,
⟨some 24, some (19, false), false, .fld 2 none (.tmp 3)⟩,
⟨some 25, some (19, false), false, .len .sl (.tmp 24)⟩,
⟨some 26, some (19, false), false, .bin .neq (.tmp 22) (.tmp 25)⟩,
⟨some 27, none, false, .pick (.tmp 19) (.const (.bool true)) (.tmp 26)⟩,
⟨some 28, none, false, .mov (.tmp 27)⟩,
⟨some 29, some (28, false), false, .fld 0 (some 0) (.tmp 2)⟩,
⟨some 30, some (28, false), false, .fld 3 none (.tmp 2)⟩,
⟨some 31, some (28, false), false, .len .sl (.tmp 30)⟩,
⟨some 32, some (28, false), false, .fld 0 (some 0) (.tmp 3)⟩,
⟨some 33, some (28, false), false, .fld 3 none (.tmp 3)⟩,
⟨some 34, some (28, false), false, .len .sl (.tmp 33)⟩,
⟨some 35, some (28, false), false, .bin .neq (.tmp 31) (.tmp 34)⟩,
⟨some 36, none, false, .pick (.tmp 28) (.const (.bool true)) (.tmp 35)⟩]) (.cond (.tmp 36) (.seq (.ops false [
⟨some 4, none, false, .mov (.const (.bool false))⟩]) .ret) .skip)) (.seq (.seq (.ops false [
⟨some 5, none, false, .mov (.const (.int .i64 0))⟩]) (.block 0 (.loop (.seq (.seq (.ops false [
⟨some 37, none, false, .mov (.tmp 5)⟩,
⟨some 38, none, false, .fld 0 (some 0) (.tmp 2)⟩,
⟨some 39, none, false, .fld 2 none (.tmp 2)⟩,
⟨some 40, none, false, .len .sl (.tmp 39)⟩,
⟨some 41, none, false, .bin .lss (.tmp 37) (.tmp 40)⟩]) (.cond (.tmp 41) .skip (.exit 0))) (.seq (.block 1 (.seq (.ops true [
⟨some 44, none, false, .fld 0 (some 0) (.tmp 2)⟩,
⟨some 45, none, false, .fld 2 none (.tmp 2)⟩,
⟨some 46, none, false, .mov (.tmp 5)⟩,
⟨some 47, none, false, .ixs 1 (.tmp 45) (.tmp 46)⟩,
⟨some 48, none, false, .ld1 (.tmp 47)⟩,
⟨some 49, none, false, .fld 0 (some 0) (.tmp 3)⟩,
⟨some 50, none, false, .fld 2 none (.tmp 3)⟩,
⟨some 51, none, false, .mov (.tmp 5)⟩,
⟨some 52, none, false, .ixs 1 (.tmp 50) (.tmp 51)⟩,
⟨some 53, none, false, .ld1 (.tmp 52)⟩,
⟨some 54, none, false, .bin .neq (.tmp 48) (.tmp 53)⟩]) (.cond (.tmp 54) (.seq (.ops false [
⟨some 4, none, false, .mov (.const (.bool false))⟩]) .ret) .skip))) (.ops false [
⟨some 42, none, false, .mov (.tmp 5)⟩,
⟨some 43, none, false, .bin .add (.tmp 42) (.const (.int .i64 1))⟩,
⟨some 5, none, false, .mov (.tmp 43)⟩])))))) (.seq (.seq (.ops false [
⟨some 6, none, false, .mov (.const (.int .i64 0))⟩]) (.block 2 (.loop (.seq (.seq (.ops false [
⟨some 55, none, false, .mov (.tmp 6)⟩,
⟨some 56, none, false, .fld 0 (some 0) (.tmp 2)⟩,
⟨some 57, none, false, .fld 3 none (.tmp 2)⟩,
⟨some 58, none, false, .len .sl (.tmp 57)⟩,
⟨some 59, none, false, .bin .lss (.tmp 55) (.tmp 58)⟩]) (.cond (.tmp 59) .skip (.exit 2))) (.seq (.block 3 (.seq (.ops true [
⟨some 62, none, false, .fld 0 (some 0) (.tmp 2)⟩,
⟨some 63, none, false, .fld 3 none (.tmp 2)⟩,
⟨some 64, none, false, .mov (.tmp 6)⟩,
⟨some 65, none, false, .ixs 1 (.tmp 63) (.tmp 64)⟩,
⟨some 66, none, false, .ld1 (.tmp 65)⟩,
⟨some 67, none, false, .fld 0 (some 0) (.tmp 3)⟩,
⟨some 68, none, false, .fld 3 none (.tmp 3)⟩,
⟨some 69, none, false, .mov (.tmp 6)⟩,
⟨some 70, none, false, .ixs 1 (.tmp 68) (.tmp 69)⟩,
⟨some 71, none, false, .ld1 (.tmp 70)⟩,
⟨some 72, none, false, .bin .neq (.tmp 66) (.tmp 71)⟩]) (.cond (.tmp 72) (.seq (.ops false [
⟨some 4, none, false, .mov (.const (.bool false))⟩]) .ret) .skip))) (.ops false [
⟨some 60, none, false, .mov (.tmp 6)⟩,
⟨some 61, none, false, .bin .add (.tmp 60) (.const (.int .i64 1))⟩,
⟨some 6, none, false, .mov (.tmp 61)⟩])))))) (.seq (.ops false [
⟨some 4, none, false, .mov (.const (.bool true))⟩]) .ret))))) }
theorem pr12 : promFn 0 ⟨73, [2, 3], [7, 9, 13, 15, 20, 23, 29, 32, 38, 44, 49, 56, 62, 67]⟩ ic12 = some ip12 := by kernel_rfl
/-- bandplan/bandplanref10.Flat, with registers -/
def ip14 : IFn := { ntmps := 34, results := [.rega 8 4], code := (.seq (.ops false [
⟨some 8, none, false, .mov (.const undef)⟩,
⟨some 9, none, false, .mov (.const undef)⟩,
⟨some 8, none, false, .reg [.int .i64 0, .int .i64 0, .slice none 0 0, .slice none 0 0]⟩]) (.seq (.ops false [
⟨some 11, none, false, .mov (.tmp 0)⟩,
⟨some 12, none, false, .mov (.tmp 1)⟩,
⟨some 13, none, false, .bld [.int .i64 0, .int .i64 0, .slice none 0 0, .slice none 0 0] [(0, 1, .tmp 11), (1, 1, .tmp 12)]⟩,
⟨some 9, none, false, .reg [.int .i64 0, .int .i64 0, .slice none 0 0, .slice none 0 0]⟩,
⟨some 9, none, false, .upd 0 4 (.tmp 9) (.tmp 13)⟩]) (.seq (.seq (.ops false [
⟨some 10, none, false, .mov (.const (.int .i64 0))⟩]) (.block 0 (.loop (.seq (.seq (.ops false [
⟨some 14, none, false, .mov (.tmp 10)⟩,
⟨some 15, none, false, .mov (.tmp 0)⟩,
⟨some 16, none, false, .mov (.tmp 1)⟩,
⟨some 17, none, false, .bin .mul (.tmp 15) (.tmp 16)⟩,
⟨some 18, none, false, .bin .lss (.tmp 14) (.tmp 17)⟩]) (.cond (.tmp 18) .skip (.exit 0))) (.seq (.block 1 (.seq (.ops false [
⟨some 21, none, false, .fld 0 (some 0) (.tmp 9)⟩,
⟨some 22, none, false, .fld 2 none (.tmp 9)⟩,
⟨some 23, none, false, .mov (.tmp 2)⟩,
⟨some 24, none, false, .bld [.int .i64 0] [(0, 1, .tmp 23)]⟩,
⟨some 25, none, false, .apl 1 8 1 (.tmp 22) (.tmp 24)⟩,
⟨some 26, none, false, .fld 0 (some 0) (.tmp 9)⟩,
⟨some 9, none, false, .upd 2 1 (.tmp 9) (.tmp 25)⟩]) (.ops false [
⟨some 27, none, false, .fld 0 (some 0) (.tmp 9)⟩,
⟨some 28, none, false, .fld 3 none (.tmp 9)⟩,
⟨some 29, none, false, .mov (.tmp 3)⟩,
⟨some 30, none, false, .bld [.int .i64 0] [(0, 1, .tmp 29)]⟩,
⟨some 31, none, false, .apl 1 8 1 (.tmp 28) (.tmp 30)⟩,
⟨some 32, none, false, .fld 0 (some 0) (.tmp 9)⟩,
⟨some 9, none, false, .upd 3 1 (.tmp 9) (.tmp 31)⟩]))) (.ops false [
⟨some 19, none, false, .mov (.tmp 10)⟩,
⟨some 20, none, false, .bin .add (.tmp 19) (.const (.int .i64 1))⟩,
⟨some 10, none, false, .mov (.tmp 20)⟩])))))) (.seq (.ops false [
⟨some 33, none, false, .fld 0 (some 4) (.tmp 9)⟩,
⟨some 8, none, false, .upd 0 4 (.tmp 8) (.tmp 33)⟩]) .ret)))) }
theorem pr14 : promFn 0 ⟨34, [8, 9], [21, 26, 27, 32, 24, 30]⟩ ic14 = some ip14 := by kernel_rfl
/-- bandplan/terrain.Valid, with registers -/
def ip15 : IFn := { ntmps := 41, results := [.tmp 2], code := (.seq (.ops false [
⟨some 1, none, false, .mov (.const undef)⟩,
⟨some 1, none, false, .regb 4 (.tmp 0)⟩,
⟨some 2, none, false, .mov (.const (.bool false))⟩]) (.seq (.seq (.ops false [
⟨some 4, none, false, .fld 0 (some 0) (.tmp 1)⟩,
⟨some 5, none, false, .fld 0 none (.tmp 1)⟩,
⟨some 6, none, false, .call (.func 41) [.const (.int .i64 1), .tmp 5, .const (.int .i64 64)]⟩,
⟨some 7, none, false, .una .not (.tmp 6)⟩,
⟨some 8, none, false, .mov (.tmp 7)⟩,
⟨some 9, some (8, false), false, .fld 0 (some 0) (.tmp 1)⟩,
⟨some 10, some (8, false), false, .fld 1 none (.tmp 1)⟩,
⟨some 11, some (8, false), false, .call (.func 41) [.const (.int .i64 1), .tmp 10, .const (.int .i64 64)]⟩,
⟨some 12, some (8, false), false, .una .not (.tmp 11)⟩,
⟨some 13, none, false, .pick (.tmp 8) (.const (.bool true)) (.tmp 12)⟩]) (.cond (.tmp 13) (.seq (.ops false [
⟨some 2, none, false, .mov (.const (.bool false))⟩]) .ret) .skip)) (.seq (.ops false [
⟨some 14, none, false, .fld 0 (some 0) (.tmp 1)⟩,
⟨some 15, none, false, .fld 0 none (.tmp 1)⟩,
⟨some 16, none, false, .fld 0 (some 0) (.tmp 1)⟩,
⟨some 17, none, false, .fld 1 none (.tmp 1)⟩,
⟨some 18, none, false, .bin .mul (.tmp 15) (.tmp 17)⟩,
⟨some 3, none, false, .mov (.tmp 18)⟩]) (.seq (.ops false [
⟨some 19, none, false, .fld 0 (some 0) (.tmp 1)⟩,
⟨some 20, none, false, .fld 2 none (.tmp 1)⟩,
⟨some 21, none, false, .len .sl (.tmp 20)⟩,
⟨some 22, none, false, .mov (.tmp 3)⟩,
⟨some 23, none, false, .bin .eql (.tmp 21) (.tmp 22)⟩,
⟨some 24, none, false, .mov (.tmp 23)⟩,
⟨some 25, some (24, true), false, .fld 0 (some 0) (.tmp 1)⟩,
⟨some 26, some (24, true), false, .fld 3 none (.tmp 1)⟩,
⟨some 27, some (24, true), false, .len .sl (.tmp 26)⟩,
⟨some 28, some (24, true), false, .mov (.tmp 3)⟩,
⟨some 29, some (24, true), false, .bin .eql (.tmp 27) (.tmp 28)⟩,
⟨some 30, none, false, .pick (.tmp 24) (.tmp 29) (.const (.bool false))⟩,
⟨some 31, none, false, .mov (.tmp 30)⟩,
⟨some 32, some (31, true), false, .fld 0 (some 0) (.tmp 1)⟩,
⟨some 33, some (31, true), false, .fld 2 none (.tmp 1)⟩,
⟨some 34, some (31, true), false, .call (.func 43) [.const (.int .i64 0), .tmp 33, .const (.int .i64 9000)]⟩,
⟨some 35, none, false, .pick (.tmp 31) (.tmp 34) (.const (.bool false))⟩,
⟨some 36, none, false, .mov (.tmp 35)⟩,
⟨some 37, some (36, true), false, .fld 0 (some 0) (.tmp 1)⟩,
⟨some 38, some (36, true), false, .fld 3 none (.tmp 1)⟩,
⟨some 39, some (36, true), false, .call (.func 43) [.const (.int .i64 0), .tmp 38, .const (.int .i64 1000000)]⟩,
⟨some 40, none, false, .pick (.tmp 36) (.tmp 39) (.const (.bool false))⟩,
⟨some 2, none, false, .mov (.tmp 40)⟩]) .ret)))) }
theorem pr15 : promFn 0 ⟨41, [1], [4, 9, 14, 16, 19, 25, 32, 37]⟩ ic15 = some ip15 := by kernel_rfl
/-- bandplan/bandplanlaw10.big, with registers -/
def ip16 : IFn := { ntmps := 13, results := [.tmp 2], code := (.seq (.ops false [
⟨some 1, none, false, .mov (.const undef)⟩,
⟨some 1, none, false, .regb 4 (.tmp 0)⟩,
⟨some 2, none, false, .mov (.const (.bool false))⟩]) (.seq (.ops false [
⟨some 3, none, false, .fld 0 (some 0) (.tmp 1)⟩,
⟨some 4, none, false, .fld 2 none (.tmp 1)⟩,
⟨some 5, none, false, .len .sl (.tmp 4)⟩,
⟨some 6, none, false, .bin .gtr (.tmp 5) (.const (.int .i64 300))⟩,
⟨some 7, none, false, .mov (.tmp 6)⟩,
⟨some 8, some (7, false), false, .fld 0 (some 0) (.tmp 1)⟩,
⟨some 9, some (7, false), false, .fld 3 none (.tmp 1)⟩,
⟨some 10, some (7, false), false, .len .sl (.tmp 9)⟩,
⟨some 11, some (7, false), false, .bin .gtr (.tmp 10) (.const (.int .i64 300))⟩,
⟨some 12, none, false, .pick (.tmp 7) (.const (.bool true)) (.tmp 11)⟩,
⟨some 2, none, false, .mov (.tmp 12)⟩]) .ret)) }
theorem pr16 : promFn 0 ⟨13, [1], [3, 8]⟩ ic16 = some ip16 := by kernel_rfl
/-- bandplan/terrain.Set, with registers -/
def ip17 : IFn := { ntmps := 43, results := [.rega 8 4, .tmp 9], code := (.seq (.ops false [
⟨some 4, none, false, .mov (.const undef)⟩,
⟨some 5, none, false, .mov (.const undef)⟩,
⟨some 8, none, false, .mov (.const undef)⟩,
⟨some 10, none, false, .mov (.const undef)⟩,
⟨some 4, none, false, .regb 4 (.tmp 0)⟩,
⟨some 5, none, false, .regb 2 (.tmp 1)⟩,
⟨some 8, none, false, .reg [.int .i64 0, .int .i64 0, .slice none 0 0, .slice none 0 0]⟩,
⟨some 9, none, false, .mov (.const (.int .i64 0))⟩]) (.seq (.seq (.ops false [
⟨some 11, none, false, .fld 0 (some 4) (.tmp 4)⟩,
⟨some 12, none, false, .fld 0 (some 2) (.tmp 5)⟩,
⟨some 13, none, false, .call (.func 32) [.tmp 11, .tmp 12]⟩,
⟨some 14, none, false, .una .not (.tmp 13)⟩,
⟨some 15, none, false, .mov (.tmp 14)⟩,
⟨some 16, some (15, false), false, .mov (.tmp 2)⟩,
⟨some 17, some (15, false), false, .call (.func 41) [.const (.int .i64 0), .tmp 16, .const (.int .i64 9000)]⟩,
⟨some 18, some (15, false), false, .una .not (.tmp 17)⟩,
⟨some 19, none, false, .pick (.tmp 15) (.const (.bool true)) (.tmp 18)⟩,
⟨some 20, none, false, .mov (.tmp 19)⟩,
⟨some 21, some (20, false), false, .mov (.tmp 3)⟩,
⟨some 22, some (20, false), false, .call (.func 41) [.const (.int .i64 0), .tmp 21, .const (.int .i64 1000000)]⟩,
⟨some 23, some (20, false), false, .una .not (.tmp 22)⟩,
⟨some 24, none, false, .pick (.tmp 20) (.const (.bool true)) (.tmp 23)⟩]) (.cond (.tmp 24) (.seq (.ops false [
⟨some 25, none, false, .bld [.int .i64 0, .int .i64 0, .slice none 0 0, .slice none 0 0] []⟩,
⟨some 8, none, false, .upd 0 4 (.tmp 8) (.tmp 25)⟩,
⟨some 9, none, false, .mov (.const (.int .i64 2))⟩]) .ret) .skip)) (.seq (.ops false [
⟨some 26, none, false, .fld 0 (some 4) (.tmp 4)⟩,
⟨some 27, none, false, .call (.func 40) [.tmp 26]⟩,
⟨some 10, none, false, .reg [.int .i64 0, .int .i64 0, .slice none 0 0, .slice none 0 0]⟩,
⟨some 10, none, false, .upd 0 4 (.tmp 10) (.tmp 27)⟩]) (.seq (.ops true [
⟨some 28, none, false, .fld 0 (some 0) (.tmp 10)⟩,
⟨some 29, none, false, .fld 2 none (.tmp 10)⟩,
⟨some 30, none, false, .fld 0 (some 4) (.tmp 4)⟩,
⟨some 31, none, false, .fld 0 (some 2) (.tmp 5)⟩,
⟨some 32, none, true, .call (.func 44) [.tmp 30, .tmp 31]⟩,
⟨some 33, none, false, .fld 0 (some 0) (.tmp 10)⟩,
⟨some 34, none, false, .fld 3 none (.tmp 10)⟩,
⟨some 35, none, false, .fld 0 (some 4) (.tmp 4)⟩,
⟨some 36, none, false, .fld 0 (some 2) (.tmp 5)⟩,
⟨some 37, none, true, .call (.func 44) [.tmp 35, .tmp 36]⟩,
⟨some 38, none, false, .mov (.tmp 2)⟩,
⟨some 39, none, false, .mov (.tmp 3)⟩,
⟨some 40, none, false, .ixs 1 (.tmp 29) (.tmp 32)⟩,
⟨none, none, false, .stk 1 (.tmp 40) (.tmp 38) []⟩,
⟨some 41, none, false, .ixs 1 (.tmp 34) (.tmp 37)⟩,
⟨none, none, false, .sto 1 (.tmp 41) (.tmp 39)⟩]) (.seq (.ops false [
⟨some 42, none, false, .fld 0 (some 4) (.tmp 10)⟩,
⟨some 8, none, false, .upd 0 4 (.tmp 8) (.tmp 42)⟩,
⟨some 9, none, false, .mov (.const (.int .i64 0))⟩]) .ret))))) }
theorem pr17 : promFn 0 ⟨43, [4, 5, 8, 10], [28, 33]⟩ ic17 = some ip17 := by kernel_rfl
/-- bandplan/bandplanref10.Has, with registers -/
def ip18 : IFn := { ntmps := 31, results := [.tmp 4], code := (.seq (.ops false [
⟨some 2, none, false, .mov (.const undef)⟩,
⟨some 3, none, false, .mov (.const undef)⟩,
⟨some 2, none, false, .regb 4 (.tmp 0)⟩,
⟨some 3, none, false, .regb 2 (.tmp 1)⟩,
⟨some 4, none, false, .mov (.const (.bool false))⟩]) (.seq (.ops false [
⟨some 5, none, false, .fld 0 (some 4) (.tmp 2)⟩,
⟨some 6, none, false, .call (.func 29) [.tmp 5]⟩,
⟨some 7, none, false, .mov (.tmp 6)⟩,
⟨some 8, some (7, true), false, .fld 0 (some 0) (.tmp 3)⟩,
⟨some 9, some (7, true), false, .fld 0 none (.tmp 3)⟩,
⟨some 10, some (7, true), false, .bin .geq (.tmp 9) (.const (.int .i64 0))⟩,
⟨some 11, none, false, .pick (.tmp 7) (.tmp 10) (.const (.bool false))⟩,
⟨some 12, none, false, .mov (.tmp 11)⟩,
⟨some 13, some (12, true), false, .fld 0 (some 0) (.tmp 3)⟩,
⟨some 14, some (12, true), false, .fld 0 none (.tmp 3)⟩,
⟨some 15, some (12, true), false, .fld 0 (some 0) (.tmp 2)⟩,
⟨some 16, some (12, true), false, .fld 0 none (.tmp 2)⟩,
⟨some 17, some (12, true), false, .bin .lss (.tmp 14) (.tmp 16)⟩,
⟨some 18, none, false, .pick (.tmp 12) (.tmp 17) (.const (.bool false))⟩,
⟨some 19, none, false, .mov (.tmp 18)⟩,
⟨some 20, some (19, true), false, .fld 0 (some 0) (.tmp 3)⟩,
⟨some 21, some (19, true), false, .fld 1 none (.tmp 3)⟩,
⟨some 22, some (19, true), false, .bin .geq (.tmp 21) (.const (.int .i64 0))⟩,
⟨some 23, none, false, .pick (.tmp 19) (.tmp 22) (.const (.bool false))⟩,
⟨some 24, none, false, .mov (.tmp 23)⟩,
⟨some 25, some (24, true), false, .fld 0 (some 0) (.tmp 3)⟩,
⟨some 26, some (24, true), false, .fld 1 none (.tmp 3)⟩,
⟨some 27, some (24, true), false, .fld 0 (some 0) (.tmp 2)⟩,
⟨some 28, some (24, true), false, .fld 1 none (.tmp 2)⟩,
⟨some 29, some (24, true), false, .bin .lss (.tmp 26) (.tmp 28)⟩,
⟨some 30, none, false, .pick (.tmp 24) (.tmp 29) (.const (.bool false))⟩,
⟨some 4, none, false, .mov (.tmp 30)⟩]) .ret)) }
theorem pr18 : promFn 0 ⟨31, [2, 3], [8, 13, 15, 20, 25, 27]⟩ ic18 = some ip18 := by kernel_rfl
/-- bandplan/bandplanref10.Set, with registers -/
def ip19 : IFn := { ntmps := 38, results := [.rega 8 4], code := (.seq (.ops false [
⟨some 4, none, false, .mov (.const undef)⟩,
⟨some 5, none, false, .mov (.const undef)⟩,
⟨some 8, none, false, .mov (.const undef)⟩,
⟨some 9, none, false, .mov (.const undef)⟩,
⟨some 4, none, false, .regb 4 (.tmp 0)⟩,
⟨some 5, none, false, .regb 2 (.tmp 1)⟩,
⟨some 8, none, false, .reg [.int .i64 0, .int .i64 0, .slice none 0 0, .slice none 0 0]⟩]) (.seq (.ops true [
⟨some 10, none, false, .fld 0 (some 0) (.tmp 4)⟩,
⟨some 11, none, false, .fld 0 none (.tmp 4)⟩,
⟨some 12, none, false, .fld 0 (some 0) (.tmp 4)⟩,
⟨some 13, none, false, .fld 1 none (.tmp 4)⟩,
⟨some 14, none, false, .bsl 0 [] []⟩,
⟨some 15, none, false, .fld 0 (some 0) (.tmp 4)⟩,
⟨some 16, none, false, .fld 2 none (.tmp 4)⟩,
⟨some 17, none, true, .app 1 8 (.tmp 14) (.tmp 16)⟩,
⟨some 18, none, false, .bsl 0 [] []⟩,
⟨some 19, none, false, .fld 0 (some 0) (.tmp 4)⟩,
⟨some 20, none, false, .fld 3 none (.tmp 4)⟩,
⟨some 21, none, true, .app 1 8 (.tmp 18) (.tmp 20)⟩,
⟨some 22, none, false, .bld [.int .i64 0, .int .i64 0, .slice none 0 0, .slice none 0 0] [(0, 1, .tmp 11), (1, 1, .tmp 13), (2, 1, .tmp 17), (3, 1, .tmp 21)]⟩,
⟨some 9, none, false, .reg [.int .i64 0, .int .i64 0, .slice none 0 0, .slice none 0 0]⟩,
⟨some 9, none, false, .upd 0 4 (.tmp 9) (.tmp 22)⟩]) (.seq (.ops true [
⟨some 23, none, false, .fld 0 (some 0) (.tmp 9)⟩,
⟨some 24, none, false, .fld 2 none (.tmp 9)⟩,
⟨some 25, none, false, .fld 0 (some 4) (.tmp 4)⟩,
⟨some 26, none, false, .fld 0 (some 2) (.tmp 5)⟩,
⟨some 27, none, true, .call (.func 37) [.tmp 25, .tmp 26]⟩,
⟨some 28, none, false, .mov (.tmp 2)⟩,
⟨some 29, none, false, .ixs 1 (.tmp 24) (.tmp 27)⟩,
⟨none, none, false, .sto 1 (.tmp 29) (.tmp 28)⟩]) (.seq (.ops true [
⟨some 30, none, false, .fld 0 (some 0) (.tmp 9)⟩,
⟨some 31, none, false, .fld 3 none (.tmp 9)⟩,
⟨some 32, none, false, .fld 0 (some 4) (.tmp 4)⟩,
⟨some 33, none, false, .fld 0 (some 2) (.tmp 5)⟩,
⟨some 34, none, true, .call (.func 37) [.tmp 32, .tmp 33]⟩,
⟨some 35, none, false, .mov (.tmp 3)⟩,
⟨some 36, none, false, .ixs 1 (.tmp 31) (.tmp 34)⟩,
⟨none, none, false, .sto 1 (.tmp 36) (.tmp 35)⟩]) (.seq (.ops false [
⟨some 37, none, false, .fld 0 (some 4) (.tmp 9)⟩,
⟨some 8, none, false, .upd 0 4 (.tmp 8) (.tmp 37)⟩]) .ret))))) }
theorem pr19 : promFn 0 ⟨38, [4, 5, 8, 9], [10, 12, 15, 19, 23, 30]⟩ ic19 = some ip19 := by kernel_rfl
/-- bandplan/terrain.Line, with registers -/
def ip20 : IFn := { ntmps := 59, results := [.tmp 4, .tmp 5], code := (.seq (.ops false [
⟨some 2, none, false, .mov (.const undef)⟩,
⟨some 3, none, false, .mov (.const undef)⟩,
⟨some 2, none, false, .regb 2 (.tmp 0)⟩,
⟨some 3, none, false, .regb 2 (.tmp 1)⟩,
⟨some 4, none, false, .mov (.const (Value.slice none 0 0))⟩,
⟨some 5, none, false, .mov (.const (.int .i64 0))⟩]) (.seq (.seq (.ops false [
⟨some 11, none, false, .fld 0 (some 0) (.tmp 2)⟩,
⟨some 12, none, false, .fld 0 none (.tmp 2)⟩,
⟨some 13, none, false, .fld 0 (some 0) (.tmp 2)⟩,
⟨some 14, none, false, .fld 1 none (.tmp 2)⟩,
⟨some 15, none, false, .fld 0 (some 0) (.tmp 3)⟩,
⟨some 16, none, false, .fld 0 none (.tmp 3)⟩,
⟨some 17, none, false, .fld 0 (some 0) (.tmp 3)⟩,
⟨some 18, none, false, .fld 1 none (.tmp 3)⟩,
⟨some 19, none, false, .bsl 4 [.int .i64 0, .int .i64 0, .int .i64 0, .int .i64 0] [(0, 1, .tmp 12), (1, 1, .tmp 14), (2, 1, .tmp 16), (3, 1, .tmp 18)]⟩,
⟨some 20, none, false, .call (.func 43) [.const (.int .i64 0), .tmp 19, .const (.int .i64 63)]⟩,
⟨some 21, none, false, .una .not (.tmp 20)⟩]) (.cond (.tmp 21) (.seq (.ops false [
⟨some 4, none, false, .mov (.const (Value.slice none 0 0))⟩,
⟨some 5, none, false, .mov (.const (.int .i64 2))⟩]) .ret) .skip)) (.seq (.ops true [
⟨some 22, none, false, .fld 0 (some 0) (.tmp 3)⟩,
⟨some 23, none, false, .fld 0 none (.tmp 3)⟩,
⟨some 24, none, false, .fld 0 (some 0) (.tmp 2)⟩,
⟨some 25, none, false, .fld 0 none (.tmp 2)⟩,
⟨some 26, none, false, .bin .sub (.tmp 23) (.tmp 25)⟩,
⟨some 27, none, false, .fld 0 (some 0) (.tmp 3)⟩,
⟨some 28, none, false, .fld 1 none (.tmp 3)⟩,
⟨some 29, none, false, .fld 0 (some 0) (.tmp 2)⟩,
⟨some 30, none, false, .fld 1 none (.tmp 2)⟩,
⟨some 31, none, false, .bin .sub (.tmp 28) (.tmp 30)⟩,
⟨some 6, none, false, .mov (.tmp 26)⟩,
⟨some 7, none, false, .mov (.tmp 31)⟩]) (.seq (.ops false [
⟨some 32, none, false, .mov (.tmp 6)⟩,
⟨some 33, none, false, .call (.func 45) [.tmp 32]⟩,
⟨some 34, none, false, .mov (.tmp 7)⟩,
⟨some 35, none, false, .call (.func 45) [.tmp 34]⟩,
⟨some 36, none, false, .mnx true [.tmp 33, .tmp 35]⟩,
⟨some 8, none, false, .mov (.tmp 36)⟩]) (.seq (.ops false [
⟨some 9, none, false, .mov (.const (Value.slice none 0 0))⟩]) (.seq (.seq (.ops false [
⟨some 10, none, false, .mov (.const (.int .i64 1))⟩]) (.block 0 (.loop (.seq (.seq (.ops false [
⟨some 37, none, false, .mov (.tmp 10)⟩,
⟨some 38, none, false, .mov (.tmp 8)⟩,
⟨some 39, none, false, .bin .lss (.tmp 37) (.tmp 38)⟩]) (.cond (.tmp 39) .skip (.exit 0))) (.seq (.block 1 (.ops true [
⟨some 42, none, false, .mov (.tmp 9)⟩,
⟨some 43, none, false, .fld 0 (some 0) (.tmp 2)⟩,
⟨some 44, none, false, .fld 0 none (.tmp 2)⟩,
⟨some 45, none, false, .mov (.tmp 10)⟩,
⟨some 46, none, false, .mov (.tmp 6)⟩,
⟨some 47, none, false, .mov (.tmp 8)⟩,
⟨some 48, none, true, .call (.func 46) [.tmp 44, .tmp 45, .tmp 46, .tmp 47]⟩,
⟨some 49, none, false, .fld 0 (some 0) (.tmp 2)⟩,
⟨some 50, none, false, .fld 1 none (.tmp 2)⟩,
⟨some 51, none, false, .mov (.tmp 10)⟩,
⟨some 52, none, false, .mov (.tmp 7)⟩,
⟨some 53, none, false, .mov (.tmp 8)⟩,
⟨some 54, none, false, .call (.func 46) [.tmp 50, .tmp 51, .tmp 52, .tmp 53]⟩,
⟨some 55, none, false, .bld [.int .i64 0, .int .i64 0] [(0, 1, .tmp 48), (1, 1, .tmp 54)]⟩,
⟨some 56, none, false, .bld [.int .i64 0, .int .i64 0] [(0, 2, .tmp 55)]⟩,
⟨some 57, none, false, .apl 2 16 1 (.tmp 42) (.tmp 56)⟩,
⟨some 9, none, false, .mov (.tmp 57)⟩])) (.ops false [
⟨some 40, none, false, .mov (.tmp 10)⟩,
⟨some 41, none, false, .bin .add (.tmp 40) (.const (.int .i64 1))⟩,
⟨some 10, none, false, .mov (.tmp 41)⟩])))))) (.seq (.ops false [
⟨some 58, none, false, .mov (.tmp 9)⟩,
⟨some 4, none, false, .mov (.tmp 58)⟩,
⟨some 5, none, false, .mov (.const (.int .i64 0))⟩]) .ret))))))) }
theorem pr20 : promFn 0 ⟨59, [2, 3], [11, 13, 15, 17, 22, 24, 27, 29, 43, 49, 56]⟩ ic20 = some ip20 := by kernel_rfl
/-- bandplan/bandplanlaw10.same, with registers -/
def ip21 : IFn := { ntmps := 26, results := [.tmp 4], code := (.seq (.ops false [
⟨some 4, none, false, .mov (.const (.bool false))⟩]) (.seq (.seq (.ops false [
⟨some 6, none, false, .mov (.tmp 0)⟩,
⟨some 7, none, false, .len .sl (.tmp 6)⟩,
⟨some 8, none, false, .mov (.tmp 1)⟩,
⟨some 9, none, false, .len .sl (.tmp 8)⟩,
⟨some 10, none, false, .bin .neq (.tmp 7) (.tmp 9)⟩]) (.cond (.tmp 10) (.seq (.ops false [
⟨some 4, none, false, .mov (.const (.bool false))⟩]) .ret) .skip)) (.seq (.seq (.ops false [
⟨some 5, none, false, .mov (.const (.int .i64 0))⟩]) (.block 0 (.loop (.seq (.seq (.ops false [
⟨some 11, none, false, .mov (.tmp 5)⟩,
⟨some 12, none, false, .mov (.tmp 0)⟩,
⟨some 13, none, false, .len .sl (.tmp 12)⟩,
⟨some 14, none, false, .bin .lss (.tmp 11) (.tmp 13)⟩]) (.cond (.tmp 14) .skip (.exit 0))) (.seq (.block 1 (.seq (.ops true [
⟨some 17, none, false, .mov (.tmp 0)⟩,
⟨some 18, none, false, .mov (.tmp 5)⟩,
⟨some 19, none, false, .ixs 2 (.tmp 17) (.tmp 18)⟩,
⟨some 20, none, false, .ldn 2 (.tmp 19)⟩,
⟨some 21, none, false, .mov (.tmp 1)⟩,
⟨some 22, none, false, .mov (.tmp 5)⟩,
⟨some 23, none, false, .ixs 2 (.tmp 21) (.tmp 22)⟩,
⟨some 24, none, false, .ldn 2 (.tmp 23)⟩,
⟨some 25, none, false, .eq (.flat [.i, .i]) true (.tmp 20) (.tmp 24)⟩]) (.cond (.tmp 25) (.seq (.ops false [
⟨some 4, none, false, .mov (.const (.bool false))⟩]) .ret) .skip))) (.ops false [
⟨some 15, none, false, .mov (.tmp 5)⟩,
⟨some 16, none, false, .bin .add (.tmp 15) (.const (.int .i64 1))⟩,
⟨some 5, none, false, .mov (.tmp 16)⟩])))))) (.seq (.ops false [
⟨some 4, none, false, .mov (.const (.bool true))⟩]) .ret)))) }
theorem pr21 : promFn 0 ⟨26, [], []⟩ ic21 = some ip21 := by kernel_rfl
/-- bandplan/bandplanref10.Line, with registers -/
def ip22 : IFn := { ntmps := 53, results := [.tmp 4], code := (.seq (.ops false [
⟨some 2, none, false, .mov (.const undef)⟩,
⟨some 3, none, false, .mov (.const undef)⟩,
⟨some 2, none, false, .regb 2 (.tmp 0)⟩,
⟨some 3, none, false, .regb 2 (.tmp 1)⟩,
⟨some 4, none, false, .mov (.const (Value.slice none 0 0))⟩]) (.seq (.ops false [
⟨some 5, none, false, .mov (.const (Value.slice none 0 0))⟩]) (.seq (.ops false [
⟨some 8, none, false, .fld 0 (some 2) (.tmp 2)⟩,
⟨some 9, none, false, .fld 0 (some 2) (.tmp 3)⟩,
⟨some 10, none, false, .call (.func 47) [.tmp 8, .tmp 9]⟩,
⟨some 6, none, false, .mov (.tmp 10)⟩]) (.seq (.seq (.ops false [
⟨some 7, none, false, .mov (.const (.int .i64 1))⟩]) (.block 0 (.loop (.seq (.seq (.ops false [
⟨some 11, none, false, .mov (.tmp 7)⟩,
⟨some 12, none, false, .mov (.tmp 6)⟩,
⟨some 13, none, false, .bin .lss (.tmp 11) (.tmp 12)⟩]) (.cond (.tmp 13) .skip (.exit 0))) (.seq (.block 1 (.ops true [
⟨some 16, none, false, .mov (.tmp 5)⟩,
⟨some 17, none, false, .fld 0 (some 0) (.tmp 2)⟩,
⟨some 18, none, false, .fld 0 none (.tmp 2)⟩,
⟨some 19, none, false, .mov (.tmp 7)⟩,
⟨some 20, none, false, .bin .mul (.const (.int .i64 2)) (.tmp 19)⟩,
⟨some 21, none, false, .fld 0 (some 0) (.tmp 3)⟩,
⟨some 22, none, false, .fld 0 none (.tmp 3)⟩,
⟨some 23, none, false, .fld 0 (some 0) (.tmp 2)⟩,
⟨some 24, none, false, .fld 0 none (.tmp 2)⟩,
⟨some 25, none, false, .bin .sub (.tmp 22) (.tmp 24)⟩,
⟨some 26, none, false, .bin .mul (.tmp 20) (.tmp 25)⟩,
⟨some 27, none, false, .mov (.tmp 6)⟩,
⟨some 28, none, false, .bin .add (.tmp 26) (.tmp 27)⟩,
⟨some 29, none, false, .mov (.tmp 6)⟩,
⟨some 30, none, false, .bin .mul (.const (.int .i64 2)) (.tmp 29)⟩,
⟨some 31, none, true, .call (.func 48) [.tmp 28, .tmp 30]⟩,
⟨some 32, none, false, .bin .add (.tmp 18) (.tmp 31)⟩,
⟨some 33, none, false, .fld 0 (some 0) (.tmp 2)⟩,
⟨some 34, none, false, .fld 1 none (.tmp 2)⟩,
⟨some 35, none, false, .mov (.tmp 7)⟩,
⟨some 36, none, false, .bin .mul (.const (.int .i64 2)) (.tmp 35)⟩,
⟨some 37, none, false, .fld 0 (some 0) (.tmp 3)⟩,
⟨some 38, none, false, .fld 1 none (.tmp 3)⟩,
⟨some 39, none, false, .fld 0 (some 0) (.tmp 2)⟩,
⟨some 40, none, false, .fld 1 none (.tmp 2)⟩,
⟨some 41, none, false, .bin .sub (.tmp 38) (.tmp 40)⟩,
⟨some 42, none, false, .bin .mul (.tmp 36) (.tmp 41)⟩,
⟨some 43, none, false, .mov (.tmp 6)⟩,
⟨some 44, none, false, .bin .add (.tmp 42) (.tmp 43)⟩,
⟨some 45, none, false, .mov (.tmp 6)⟩,
⟨some 46, none, false, .bin .mul (.const (.int .i64 2)) (.tmp 45)⟩,
⟨some 47, none, true, .call (.func 48) [.tmp 44, .tmp 46]⟩,
⟨some 48, none, false, .bin .add (.tmp 34) (.tmp 47)⟩,
⟨some 49, none, false, .bld [.int .i64 0, .int .i64 0] [(0, 1, .tmp 32), (1, 1, .tmp 48)]⟩,
⟨some 50, none, false, .bld [.int .i64 0, .int .i64 0] [(0, 2, .tmp 49)]⟩,
⟨some 51, none, false, .apl 2 16 1 (.tmp 16) (.tmp 50)⟩,
⟨some 5, none, false, .mov (.tmp 51)⟩])) (.ops false [
⟨some 14, none, false, .mov (.tmp 7)⟩,
⟨some 15, none, false, .bin .add (.tmp 14) (.const (.int .i64 1))⟩,
⟨some 7, none, false, .mov (.tmp 15)⟩])))))) (.seq (.ops false [
⟨some 52, none, false, .mov (.tmp 5)⟩,
⟨some 4, none, false, .mov (.tmp 52)⟩]) .ret))))) }
theorem pr22 : promFn 0 ⟨53, [2, 3], [17, 21, 23, 33, 37, 39, 50]⟩ ic22 = some ip22 := by kernel_rfl
/-- bandplan/terrain.Profile, with registers -/
def ip23 : IFn := { ntmps := 62, results := [.tmp 6, .tmp 7], code := (.seq (.ops false [
⟨some 3, none, false, .mov (.const undef)⟩,
⟨some 4, none, false, .mov (.const undef)⟩,
⟨some 5, none, false, .mov (.const undef)⟩,
⟨some 13, none, false, .mov (.const undef)⟩,
⟨some 3, none, false, .regb 4 (.tmp 0)⟩,
⟨some 4, none, false, .regb 2 (.tmp 1)⟩,
⟨some 5, none, false, .regb 2 (.tmp 2)⟩,
⟨some 6, none, false, .mov (.const (Value.slice none 0 0))⟩,
⟨some 7, none, false, .mov (.const (.int .i64 0))⟩]) (.seq (.seq (.ops false [
⟨some 14, none, false, .fld 0 (some 4) (.tmp 3)⟩,
⟨some 15, none, false, .fld 0 (some 2) (.tmp 4)⟩,
⟨some 16, none, false, .call (.func 32) [.tmp 14, .tmp 15]⟩,
⟨some 17, none, false, .una .not (.tmp 16)⟩,
⟨some 18, none, false, .mov (.tmp 17)⟩,
⟨some 19, some (18, false), false, .fld 0 (some 4) (.tmp 3)⟩,
⟨some 20, some (18, false), false, .fld 0 (some 2) (.tmp 5)⟩,
⟨some 21, some (18, false), false, .call (.func 32) [.tmp 19, .tmp 20]⟩,
⟨some 22, some (18, false), false, .una .not (.tmp 21)⟩,
⟨some 23, none, false, .pick (.tmp 18) (.const (.bool true)) (.tmp 22)⟩]) (.cond (.tmp 23) (.seq (.ops false [
⟨some 6, none, false, .mov (.const (Value.slice none 0 0))⟩,
⟨some 7, none, false, .mov (.const (.int .i64 2))⟩]) .ret) .skip)) (.seq (.ops false [
⟨some 25, none, false, .fld 0 (some 2) (.tmp 4)⟩,
⟨some 26, none, false, .fld 0 (some 2) (.tmp 5)⟩,
⟨some 27, none, false, .call (.func 20) [.tmp 25, .tmp 26]⟩,
⟨some 24, none, false, .mov (.tmp 27)⟩,
⟨some 28, none, false, .ext (.tmp 24) 0⟩,
⟨some 29, none, false, .ext (.tmp 24) 1⟩,
⟨some 8, none, false, .mov (.tmp 28)⟩,
⟨some 9, none, false, .mov (.tmp 29)⟩]) (.seq (.ops false [
⟨some 30, none, false, .fld 0 (some 2) (.tmp 4)⟩,
⟨some 31, none, false, .bsl 1 [.int .i64 0, .int .i64 0] [(0, 2, .tmp 30)]⟩,
⟨some 32, none, false, .mov (.tmp 8)⟩,
⟨some 33, none, false, .app 2 16 (.tmp 31) (.tmp 32)⟩,
⟨some 10, none, false, .mov (.tmp 33)⟩]) (.seq (.seq (.ops false [
⟨some 34, none, false, .fld 0 (some 2) (.tmp 4)⟩,
⟨some 35, none, false, .fld 0 (some 2) (.tmp 5)⟩,
⟨some 36, none, false, .eq (.flat [.i, .i]) true (.tmp 34) (.tmp 35)⟩]) (.cond (.tmp 36) (.ops false [
⟨some 37, none, false, .mov (.tmp 10)⟩,
⟨some 38, none, false, .fld 0 (some 2) (.tmp 5)⟩,
⟨some 39, none, false, .bld [.int .i64 0, .int .i64 0] [(0, 2, .tmp 38)]⟩,
⟨some 40, none, false, .apl 2 16 1 (.tmp 37) (.tmp 39)⟩,
⟨some 10, none, false, .mov (.tmp 40)⟩]) .skip)) (.seq (.ops false [
⟨some 41, none, false, .mov (.tmp 10)⟩,
⟨some 42, none, false, .len .sl (.tmp 41)⟩,
⟨some 43, none, false, .mks 1 8 [.int .i64 0] (.const (.int .i64 0)) (.tmp 42)⟩,
⟨some 11, none, false, .mov (.tmp 43)⟩]) (.seq (.seq (.ops false [
⟨some 44, none, false, .mov (.tmp 10)⟩,
⟨some 45, none, false, .len .sl (.tmp 44)⟩,
⟨some 46, none, false, .mov (.const (.int .i64 0))⟩]) (.block 0 (.loop (.seq (.ops false [
⟨some 47, none, false, .bin .lss (.tmp 46) (.tmp 45)⟩]) (.seq (.cond (.tmp 47) .skip (.exit 0)) (.seq (.block 1 (.seq (.ops false [
⟨some 48, none, false, .ixs 2 (.tmp 44) (.tmp 46)⟩,
⟨some 49, none, false, .ldn 2 (.tmp 48)⟩,
⟨some 13, none, false, .reg [.int .i64 0, .int .i64 0]⟩,
⟨some 13, none, false, .upd 0 2 (.tmp 13) (.tmp 49)⟩]) (.ops true [
⟨some 50, none, false, .mov (.tmp 11)⟩,
⟨some 51, none, false, .fld 0 (some 0) (.tmp 3)⟩,
⟨some 52, none, false, .fld 2 none (.tmp 3)⟩,
⟨some 53, none, false, .fld 0 (some 4) (.tmp 3)⟩,
⟨some 54, none, false, .fld 0 (some 2) (.tmp 13)⟩,
⟨some 55, none, true, .call (.func 44) [.tmp 53, .tmp 54]⟩,
⟨some 56, none, false, .ixs 1 (.tmp 52) (.tmp 55)⟩,
⟨some 57, none, false, .ld1 (.tmp 56)⟩,
⟨some 58, none, false, .bld [.int .i64 0] [(0, 1, .tmp 57)]⟩,
⟨some 59, none, false, .apl 1 8 1 (.tmp 50) (.tmp 58)⟩,
⟨some 11, none, false, .mov (.tmp 59)⟩]))) (.ops false [
⟨some 60, none, false, .bin .add (.tmp 46) (.const (.int .i64 1))⟩,
⟨some 46, none, false, .mov (.tmp 60)⟩]))))))) (.seq (.ops false [
⟨some 61, none, false, .mov (.tmp 11)⟩,
⟨some 6, none, false, .mov (.tmp 61)⟩,
⟨some 7, none, false, .mov (.const (.int .i64 0))⟩]) .ret)))))))) }
theorem pr23 : promFn 0 ⟨62, [3, 4, 5, 13], [51, 39, 58]⟩ ic23 = some ip23 := by kernel_rfl
/-- bandplan/terrain.Rect, with registers -/
def ip24 : IFn := { ntmps := 58, results := [.tmp 6, .tmp 7], code := (.seq (.ops false [
⟨some 3, none, false, .mov (.const undef)⟩,
⟨some 4, none, false, .mov (.const undef)⟩,
⟨some 5, none, false, .mov (.const undef)⟩,
⟨some 3, none, false, .regb 4 (.tmp 0)⟩,
⟨some 4, none, false, .regb 2 (.tmp 1)⟩,
⟨some 5, none, false, .regb 2 (.tmp 2)⟩,
⟨some 6, none, false, .mov (.const (Value.slice none 0 0))⟩,
⟨some 7, none, false, .mov (.const (.int .i64 0))⟩]) (.seq (.seq (.ops false [
⟨some 11, none, false, .fld 0 (some 4) (.tmp 3)⟩,
⟨some 12, none, false, .fld 0 (some 2) (.tmp 4)⟩,
⟨some 13, none, false, .call (.func 32) [.tmp 11, .tmp 12]⟩,
⟨some 14, none, false, .una .not (.tmp 13)⟩,
⟨some 15, none, false, .mov (.tmp 14)⟩,
⟨some 16, some (15, false), false, .fld 0 (some 4) (.tmp 3)⟩,
⟨some 17, some (15, false), false, .fld 0 (some 2) (.tmp 5)⟩,
⟨some 18, some (15, false), false, .call (.func 32) [.tmp 16, .tmp 17]⟩,
⟨some 19, some (15, false), false, .una .not (.tmp 18)⟩,
⟨some 20, none, false, .pick (.tmp 15) (.const (.bool true)) (.tmp 19)⟩]) (.cond (.tmp 20) (.seq (.ops false [
⟨some 6, none, false, .mov (.const (Value.slice none 0 0))⟩,
⟨some 7, none, false, .mov (.const (.int .i64 2))⟩]) .ret) .skip)) (.seq (.ops false [
⟨some 8, none, false, .mov (.const (Value.slice none 0 0))⟩]) (.seq (.seq (.ops false [
⟨some 21, none, false, .fld 0 (some 0) (.tmp 4)⟩,
⟨some 22, none, false, .fld 1 none (.tmp 4)⟩,
⟨some 23, none, false, .fld 0 (some 0) (.tmp 5)⟩,
⟨some 24, none, false, .fld 1 none (.tmp 5)⟩,
⟨some 25, none, false, .mnx false [.tmp 22, .tmp 24]⟩,
⟨some 9, none, false, .mov (.tmp 25)⟩]) (.block 0 (.loop (.seq (.seq (.ops false [
⟨some 26, none, false, .mov (.tmp 9)⟩,
⟨some 27, none, false, .fld 0 (some 0) (.tmp 4)⟩,
⟨some 28, none, false, .fld 1 none (.tmp 4)⟩,
⟨some 29, none, false, .fld 0 (some 0) (.tmp 5)⟩,
⟨some 30, none, false, .fld 1 none (.tmp 5)⟩,
⟨some 31, none, false, .mnx true [.tmp 28, .tmp 30]⟩,
⟨some 32, none, false, .bin .leq (.tmp 26) (.tmp 31)⟩]) (.cond (.tmp 32) .skip (.exit 0))) (.seq (.block 1 (.seq (.ops false [
⟨some 35, none, false, .fld 0 (some 0) (.tmp 4)⟩,
⟨some 36, none, false, .fld 0 none (.tmp 4)⟩,
⟨some 37, none, false, .fld 0 (some 0) (.tmp 5)⟩,
⟨some 38, none, false, .fld 0 none (.tmp 5)⟩,
⟨some 39, none, false, .mnx false [.tmp 36, .tmp 38]⟩,
⟨some 10, none, false, .mov (.tmp 39)⟩]) (.block 2 (.loop (.seq (.seq (.ops false [
⟨some 40, none, false, .mov (.tmp 10)⟩,
⟨some 41, none, false, .fld 0 (some 0) (.tmp 4)⟩,
⟨some 42, none, false, .fld 0 none (.tmp 4)⟩,
⟨some 43, none, false, .fld 0 (some 0) (.tmp 5)⟩,
⟨some 44, none, false, .fld 0 none (.tmp 5)⟩,
⟨some 45, none, false, .mnx true [.tmp 42, .tmp 44]⟩,
⟨some 46, none, false, .bin .leq (.tmp 40) (.tmp 45)⟩]) (.cond (.tmp 46) .skip (.exit 2))) (.seq (.block 3 (.ops false [
⟨some 49, none, false, .mov (.tmp 8)⟩,
⟨some 50, none, false, .fld 0 (some 4) (.tmp 3)⟩,
⟨some 51, none, false, .mov (.tmp 10)⟩,
⟨some 52, none, false, .mov (.tmp 9)⟩,
⟨some 53, none, false, .bld [.int .i64 0, .int .i64 0] [(0, 1, .tmp 51), (1, 1, .tmp 52)]⟩,
⟨some 54, none, false, .call (.func 44) [.tmp 50, .tmp 53]⟩,
⟨some 55, none, false, .bld [.int .i64 0] [(0, 1, .tmp 54)]⟩,
⟨some 56, none, false, .apl 1 8 1 (.tmp 49) (.tmp 55)⟩,
⟨some 8, none, false, .mov (.tmp 56)⟩])) (.ops false [
⟨some 47, none, false, .mov (.tmp 10)⟩,
⟨some 48, none, false, .bin .add (.tmp 47) (.const (.int .i64 1))⟩,
⟨some 10, none, false, .mov (.tmp 48)⟩]))))))) (.ops false [
⟨some 33, none, false, .mov (.tmp 9)⟩,
⟨some 34, none, false, .bin .add (.tmp 33) (.const (.int .i64 1))⟩,
⟨some 9, none, false, .mov (.tmp 34)⟩])))))) (.seq (.ops false [
⟨some 57, none, false, .mov (.tmp 8)⟩,
⟨some 6, none, false, .mov (.tmp 57)⟩,
⟨some 7, none, false, .mov (.const (.int .i64 0))⟩]) .ret))))) }
theorem pr24 : promFn 0 ⟨58, [3, 4, 5], [21, 23, 27, 29, 35, 37, 41, 43, 55]⟩ ic24 = some ip24 := by kernel_rfl
/-- bandplan/bandplanlaw10.equal, with registers -/
def ip25 : IFn := { ntmps := 26, results := [.tmp 4], code := (.seq (.ops false [
⟨some 4, none, false, .mov (.const (.bool false))⟩]) (.seq (.seq (.ops false [
⟨some 6, none, false, .mov (.tmp 0)⟩,
⟨some 7, none, false, .len .sl (.tmp 6)⟩,
⟨some 8, none, false, .mov (.tmp 1)⟩,
⟨some 9, none, false, .len .sl (.tmp 8)⟩,
⟨some 10, none, false, .bin .neq (.tmp 7) (.tmp 9)⟩]) (.cond (.tmp 10) (.seq (.ops false [
⟨some 4, none, false, .mov (.const (.bool false))⟩]) .ret) .skip)) (.seq (.seq (.ops false [
⟨some 5, none, false, .mov (.const (.int .i64 0))⟩]) (.block 0 (.loop (.seq (.seq (.ops false [
⟨some 11, none, false, .mov (.tmp 5)⟩,
⟨some 12, none, false, .mov (.tmp 0)⟩,
⟨some 13, none, false, .len .sl (.tmp 12)⟩,
⟨some 14, none, false, .bin .lss (.tmp 11) (.tmp 13)⟩]) (.cond (.tmp 14) .skip (.exit 0))) (.seq (.block 1 (.seq (.ops true [
⟨some 17, none, false, .mov (.tmp 0)⟩,
⟨some 18, none, false, .mov (.tmp 5)⟩,
⟨some 19, none, false, .ixs 1 (.tmp 17) (.tmp 18)⟩,
⟨some 20, none, false, .ld1 (.tmp 19)⟩,
⟨some 21, none, false, .mov (.tmp 1)⟩,
⟨some 22, none, false, .mov (.tmp 5)⟩,
⟨some 23, none, false, .ixs 1 (.tmp 21) (.tmp 22)⟩,
⟨some 24, none, false, .ld1 (.tmp 23)⟩,
⟨some 25, none, false, .bin .neq (.tmp 20) (.tmp 24)⟩]) (.cond (.tmp 25) (.seq (.ops false [
⟨some 4, none, false, .mov (.const (.bool false))⟩]) .ret) .skip))) (.ops false [
⟨some 15, none, false, .mov (.tmp 5)⟩,
⟨some 16, none, false, .bin .add (.tmp 15) (.const (.int .i64 1))⟩,
⟨some 5, none, false, .mov (.tmp 16)⟩])))))) (.seq (.ops false [
⟨some 4, none, false, .mov (.const (.bool true))⟩]) .ret)))) }
theorem pr25 : promFn 0 ⟨26, [], []⟩ ic25 = some ip25 := by kernel_rfl
/-- bandplan/bandplanref10.Profile, with registers -/
def ip26 : IFn := { ntmps := 55, results := [.tmp 6], code := (.seq (.ops false [
⟨some 3, none, false, .mov (.const undef)⟩,
⟨some 4, none, false, .mov (.const undef)⟩,
⟨some 5, none, false, .mov (.const undef)⟩,
⟨some 3, none, false, .regb 4 (.tmp 0)⟩,
⟨some 4, none, false, .regb 2 (.tmp 1)⟩,
⟨some 5, none, false, .regb 2 (.tmp 2)⟩,
⟨some 6, none, false, .mov (.const (Value.slice none 0 0))⟩]) (.seq (.ops true [
⟨some 10, none, false, .fld 0 (some 0) (.tmp 3)⟩,
⟨some 11, none, false, .fld 2 none (.tmp 3)⟩,
⟨some 12, none, false, .fld 0 (some 4) (.tmp 3)⟩,
⟨some 13, none, false, .fld 0 (some 2) (.tmp 4)⟩,
⟨some 14, none, true, .call (.func 37) [.tmp 12, .tmp 13]⟩,
⟨some 15, none, false, .ixs 1 (.tmp 11) (.tmp 14)⟩,
⟨some 16, none, false, .ld1 (.tmp 15)⟩,
⟨some 17, none, false, .bsl 1 [.int .i64 0] [(0, 1, .tmp 16)]⟩,
⟨some 7, none, false, .mov (.tmp 17)⟩]) (.seq (.ops false [
⟨some 18, none, false, .fld 0 (some 2) (.tmp 4)⟩,
⟨some 19, none, false, .fld 0 (some 2) (.tmp 5)⟩,
⟨some 20, none, false, .call (.func 22) [.tmp 18, .tmp 19]⟩,
⟨some 8, none, false, .mov (.tmp 20)⟩]) (.seq (.seq (.ops false [
⟨some 9, none, false, .mov (.const (.int .i64 0))⟩]) (.block 0 (.loop (.seq (.seq (.ops false [
⟨some 21, none, false, .mov (.tmp 9)⟩,
⟨some 22, none, false, .mov (.tmp 8)⟩,
⟨some 23, none, false, .len .sl (.tmp 22)⟩,
⟨some 24, none, false, .bin .lss (.tmp 21) (.tmp 23)⟩]) (.cond (.tmp 24) .skip (.exit 0))) (.seq (.block 1 (.ops true [
⟨some 27, none, false, .mov (.tmp 7)⟩,
⟨some 28, none, false, .fld 0 (some 0) (.tmp 3)⟩,
⟨some 29, none, false, .fld 2 none (.tmp 3)⟩,
⟨some 30, none, false, .fld 0 (some 4) (.tmp 3)⟩,
⟨some 31, none, false, .mov (.tmp 8)⟩,
⟨some 32, none, false, .mov (.tmp 9)⟩,
⟨some 33, none, false, .ixs 2 (.tmp 31) (.tmp 32)⟩,
⟨some 34, none, false, .ldn 2 (.tmp 33)⟩,
⟨some 35, none, true, .call (.func 37) [.tmp 30, .tmp 34]⟩,
⟨some 36, none, false, .ixs 1 (.tmp 29) (.tmp 35)⟩,
⟨some 37, none, false, .ld1 (.tmp 36)⟩,
⟨some 38, none, false, .bld [.int .i64 0] [(0, 1, .tmp 37)]⟩,
⟨some 39, none, false, .apl 1 8 1 (.tmp 27) (.tmp 38)⟩,
⟨some 7, none, false, .mov (.tmp 39)⟩])) (.ops false [
⟨some 25, none, false, .mov (.tmp 9)⟩,
⟨some 26, none, false, .bin .add (.tmp 25) (.const (.int .i64 1))⟩,
⟨some 9, none, false, .mov (.tmp 26)⟩])))))) (.seq (.seq (.ops false [
⟨some 40, none, false, .fld 0 (some 2) (.tmp 4)⟩,
⟨some 41, none, false, .fld 0 (some 2) (.tmp 5)⟩,
⟨some 42, none, false, .call (.func 47) [.tmp 40, .tmp 41]⟩,
⟨some 43, none, false, .bin .gtr (.tmp 42) (.const (.int .i64 0))⟩]) (.cond (.tmp 43) (.ops true [
⟨some 44, none, false, .mov (.tmp 7)⟩,
⟨some 45, none, false, .fld 0 (some 0) (.tmp 3)⟩,
⟨some 46, none, false, .fld 2 none (.tmp 3)⟩,
⟨some 47, none, false, .fld 0 (some 4) (.tmp 3)⟩,
⟨some 48, none, false, .fld 0 (some 2) (.tmp 5)⟩,
⟨some 49, none, true, .call (.func 37) [.tmp 47, .tmp 48]⟩,
⟨some 50, none, false, .ixs 1 (.tmp 46) (.tmp 49)⟩,
⟨some 51, none, false, .ld1 (.tmp 50)⟩,
⟨some 52, none, false, .bld [.int .i64 0] [(0, 1, .tmp 51)]⟩,
⟨some 53, none, false, .apl 1 8 1 (.tmp 44) (.tmp 52)⟩,
⟨some 7, none, false, .mov (.tmp 53)⟩]) .skip)) (.seq (.ops false [
⟨some 54, none, false, .mov (.tmp 7)⟩,
⟨some 6, none, false, .mov (.tmp 54)⟩]) .ret)))))) }
theorem pr26 : promFn 0 ⟨55, [3, 4, 5], [10, 28, 45, 38, 52]⟩ ic26 = some ip26 := by kernel_rfl
/-- bandplan/bandplanref10.Rect, with registers -/
def ip27 : IFn := { ntmps := 43, results := [.tmp 6], code := (.seq (.ops false [
⟨some 3, none, false, .mov (.const undef)⟩,
⟨some 4, none, false, .mov (.const undef)⟩,
⟨some 5, none, false, .mov (.const undef)⟩,
⟨some 9, none, false, .mov (.const undef)⟩,
⟨some 3, none, false, .regb 4 (.tmp 0)⟩,
⟨some 4, none, false, .regb 2 (.tmp 1)⟩,
⟨some 5, none, false, .regb 2 (.tmp 2)⟩,
⟨some 6, none, false, .mov (.const (Value.slice none 0 0))⟩]) (.seq (.ops false [
⟨some 7, none, false, .mov (.const (Value.slice none 0 0))⟩]) (.seq (.seq (.ops false [
⟨some 8, none, false, .mov (.const (.int .i64 0))⟩]) (.block 0 (.loop (.seq (.seq (.ops false [
⟨some 10, none, false, .mov (.tmp 8)⟩,
⟨some 11, none, false, .fld 0 (some 0) (.tmp 3)⟩,
⟨some 12, none, false, .fld 0 none (.tmp 3)⟩,
⟨some 13, none, false, .fld 0 (some 0) (.tmp 3)⟩,
⟨some 14, none, false, .fld 1 none (.tmp 3)⟩,
⟨some 15, none, false, .bin .mul (.tmp 12) (.tmp 14)⟩,
⟨some 16, none, false, .bin .lss (.tmp 10) (.tmp 15)⟩]) (.cond (.tmp 16) .skip (.exit 0))) (.seq (.block 1 (.seq (.ops false [
⟨some 19, none, false, .fld 0 (some 4) (.tmp 3)⟩,
⟨some 20, none, false, .mov (.tmp 8)⟩,
⟨some 21, none, false, .call (.func 38) [.tmp 19, .tmp 20]⟩,
⟨some 9, none, false, .reg [.int .i64 0, .int .i64 0]⟩,
⟨some 9, none, false, .upd 0 2 (.tmp 9) (.tmp 21)⟩]) (.seq (.ops false [
⟨some 22, none, false, .fld 0 (some 0) (.tmp 9)⟩,
⟨some 23, none, false, .fld 0 none (.tmp 9)⟩,
⟨some 24, none, false, .fld 0 (some 0) (.tmp 4)⟩,
⟨some 25, none, false, .fld 0 none (.tmp 4)⟩,
⟨some 26, none, false, .fld 0 (some 0) (.tmp 5)⟩,
⟨some 27, none, false, .fld 0 none (.tmp 5)⟩,
⟨some 28, none, false, .call (.func 49) [.tmp 23, .tmp 25, .tmp 27]⟩,
⟨some 29, none, false, .mov (.tmp 28)⟩,
⟨some 30, some (29, true), false, .fld 0 (some 0) (.tmp 9)⟩,
⟨some 31, some (29, true), false, .fld 1 none (.tmp 9)⟩,
⟨some 32, some (29, true), false, .fld 0 (some 0) (.tmp 4)⟩,
⟨some 33, some (29, true), false, .fld 1 none (.tmp 4)⟩,
⟨some 34, some (29, true), false, .fld 0 (some 0) (.tmp 5)⟩,
⟨some 35, some (29, true), false, .fld 1 none (.tmp 5)⟩,
⟨some 36, some (29, true), false, .call (.func 49) [.tmp 31, .tmp 33, .tmp 35]⟩,
⟨some 37, none, false, .pick (.tmp 29) (.tmp 36) (.const (.bool false))⟩]) (.cond (.tmp 37) (.ops false [
⟨some 38, none, false, .mov (.tmp 7)⟩,
⟨some 39, none, false, .mov (.tmp 8)⟩,
⟨some 40, none, false, .bld [.int .i64 0] [(0, 1, .tmp 39)]⟩,
⟨some 41, none, false, .apl 1 8 1 (.tmp 38) (.tmp 40)⟩,
⟨some 7, none, false, .mov (.tmp 41)⟩]) .skip)))) (.ops false [
⟨some 17, none, false, .mov (.tmp 8)⟩,
⟨some 18, none, false, .bin .add (.tmp 17) (.const (.int .i64 1))⟩,
⟨some 8, none, false, .mov (.tmp 18)⟩])))))) (.seq (.ops false [
⟨some 42, none, false, .mov (.tmp 7)⟩,
⟨some 6, none, false, .mov (.tmp 42)⟩]) .ret)))) }
theorem pr27 : promFn 0 ⟨43, [3, 4, 5, 9], [11, 13, 22, 24, 26, 30, 32, 34, 40]⟩ ic27 = some ip27 := by kernel_rfl
/-- bandplan/terrain.Total, with registers -/
def ip28 : IFn := { ntmps := 46, results := [.tmp 4, .tmp 5], code := (.seq (.ops false [
⟨some 2, none, false, .mov (.const undef)⟩,
⟨some 2, none, false, .regb 4 (.tmp 0)⟩,
⟨some 4, none, false, .mov (.const (.int .i64 0))⟩,
⟨some 5, none, false, .mov (.const (.int .i64 0))⟩]) (.seq (.seq (.ops false [
⟨some 10, none, false, .fld 0 (some 4) (.tmp 2)⟩,
⟨some 11, none, false, .call (.func 15) [.tmp 10]⟩,
⟨some 12, none, false, .una .not (.tmp 11)⟩,
⟨some 13, none, false, .mov (.tmp 12)⟩,
⟨some 14, some (13, false), false, .mov (.tmp 1)⟩,
⟨some 15, some (13, false), false, .fld 0 (some 0) (.tmp 2)⟩,
⟨some 16, some (13, false), false, .fld 3 none (.tmp 2)⟩,
⟨some 17, some (13, false), false, .len .sl (.tmp 16)⟩,
⟨some 18, some (13, false), false, .bin .sub (.tmp 17) (.const (.int .i64 1))⟩,
⟨some 19, some (13, false), false, .call (.func 43) [.const (.int .i64 0), .tmp 14, .tmp 18]⟩,
⟨some 20, some (13, false), false, .una .not (.tmp 19)⟩,
⟨some 21, none, false, .pick (.tmp 13) (.const (.bool true)) (.tmp 20)⟩]) (.cond (.tmp 21) (.seq (.ops false [
⟨some 4, none, false, .mov (.const (.int .i64 0))⟩,
⟨some 5, none, false, .mov (.const (.int .i64 2))⟩]) .ret) .skip)) (.seq (.ops false [
⟨some 6, none, false, .mov (.const (.int .i64 0))⟩]) (.seq (.ops false [
⟨some 22, none, false, .mov (.tmp 1)⟩,
⟨some 23, none, false, .len .sl (.tmp 22)⟩,
⟨some 24, none, false, .mkh (.tmp 23)⟩,
⟨some 7, none, false, .mov (.tmp 24)⟩]) (.seq (.seq (.ops false [
⟨some 25, none, false, .mov (.tmp 1)⟩,
⟨some 26, none, false, .len .sl (.tmp 25)⟩,
⟨some 27, none, false, .mov (.const (.int .i64 0))⟩]) (.block 0 (.loop (.seq (.ops false [
⟨some 28, none, false, .bin .lss (.tmp 27) (.tmp 26)⟩]) (.seq (.cond (.tmp 28) .skip (.exit 0)) (.seq (.block 1 (.seq (.ops false [
⟨some 29, none, false, .ixs 1 (.tmp 25) (.tmp 27)⟩,
⟨some 30, none, false, .ld1 (.tmp 29)⟩,
⟨some 9, none, false, .mov (.tmp 30)⟩]) (.seq (.ops false [
⟨some 31, none, false, .mov (.tmp 7)⟩,
⟨some 32, none, false, .mov (.tmp 9)⟩,
⟨some 33, none, false, .lkp ⟨false, [.i]⟩ (.bool false) false (.tmp 31) (.tmp 32)⟩,
⟨some 34, none, false, .una .not (.tmp 33)⟩]) (.cond (.tmp 34) (.seq (.ops false [
⟨some 35, none, false, .mov (.tmp 7)⟩,
⟨some 36, none, false, .mov (.tmp 9)⟩,
⟨none, none, false, .mup ⟨false, [.i]⟩ (.tmp 35) (.tmp 36) (.const (.bool true))⟩]) (.ops false [
⟨some 37, none, false, .mov (.tmp 6)⟩,
⟨some 38, none, false, .fld 0 (some 0) (.tmp 2)⟩,
⟨some 39, none, false, .fld 3 none (.tmp 2)⟩,
⟨some 40, none, false, .mov (.tmp 9)⟩,
⟨some 41, none, false, .ixs 1 (.tmp 39) (.tmp 40)⟩,
⟨some 42, none, false, .ld1 (.tmp 41)⟩,
⟨some 43, none, false, .bin .add (.tmp 37) (.tmp 42)⟩,
⟨some 6, none, false, .mov (.tmp 43)⟩])) .skip)))) (.ops false [
⟨some 44, none, false, .bin .add (.tmp 27) (.const (.int .i64 1))⟩,
⟨some 27, none, false, .mov (.tmp 44)⟩]))))))) (.seq (.ops false [
⟨some 45, none, false, .mov (.tmp 6)⟩,
⟨some 4, none, false, .mov (.tmp 45)⟩,
⟨some 5, none, false, .mov (.const (.int .i64 0))⟩]) .ret)))))) }
theorem pr28 : promFn 0 ⟨46, [2], [15, 38]⟩ ic28 = some ip28 := by kernel_rfl
/-- bandplan/bandplanref10.Valid, with registers -/
def ip29 : IFn := { ntmps := 75, results := [.tmp 2], code := (.seq (.ops false [
⟨some 1, none, false, .mov (.const undef)⟩,
⟨some 1, none, false, .regb 4 (.tmp 0)⟩,
⟨some 2, none, false, .mov (.const (.bool false))⟩]) (.seq (.seq (.ops false [
⟨some 5, none, false, .fld 0 (some 0) (.tmp 1)⟩,
⟨some 6, none, false, .fld 0 none (.tmp 1)⟩,
⟨some 7, none, false, .bin .lss (.tmp 6) (.const (.int .i64 1))⟩,
⟨some 8, none, false, .mov (.tmp 7)⟩,
⟨some 9, some (8, false), false, .fld 0 (some 0) (.tmp 1)⟩,
⟨some 10, some (8, false), false, .fld 0 none (.tmp 1)⟩,
⟨some 11, some (8, false), false, .bin .gtr (.tmp 10) (.const (.int .i64 64))⟩,
⟨some 12, none, false, .pick (.tmp 8) (.const (.bool true)) (.tmp 11)⟩,
⟨some 13, none, false, .mov (.tmp 12)⟩,
⟨some 14, some (13, false), false, .fld 0 (some 0) (.tmp 1)⟩,
⟨some 15, some (13, false), false, .fld 1 none (.tmp 1)⟩,
⟨some 16, some (13, false), false, .bin .lss (.tmp 15) (.const (.int .i64 1))⟩,
⟨some 17, none, false, .pick (.tmp 13) (.const (.bool true)) (.tmp 16)⟩,
⟨some 18, none, false, .mov (.tmp 17)⟩,
⟨some 19, some (18, false), false, .fld 0 (some 0) (.tmp 1)⟩,
⟨some 20, some (18, false), false, .fld 1 none (.tmp 1)⟩,
⟨some 21, some (18, false), false, .bin .gtr (.tmp 20) (.const (.int .i64 64))⟩,
⟨some 22, none, false, .pick (.tmp 18) (.const (.bool true)) (.tmp 21)⟩]) (.cond (.tmp 22) (.seq (.ops false [
⟨some 2, none, false, .mov (.const (.bool false))⟩]) .ret) .skip)) (.seq (.ops false [
⟨some 23, none, false, .fld 0 (some 0) (.tmp 1)⟩,
⟨some 24, none, false, .fld 0 none (.tmp 1)⟩,
⟨some 25, none, false, .fld 0 (some 0) (.tmp 1)⟩,
⟨some 26, none, false, .fld 1 none (.tmp 1)⟩,
⟨some 27, none, false, .bin .mul (.tmp 24) (.tmp 26)⟩,
⟨some 3, none, false, .mov (.tmp 27)⟩]) (.seq (.seq (.ops false [
⟨some 28, none, false, .fld 0 (some 0) (.tmp 1)⟩,
⟨some 29, none, false, .fld 2 none (.tmp 1)⟩,
⟨some 30, none, false, .len .sl (.tmp 29)⟩,
⟨some 31, none, false, .mov (.tmp 3)⟩,
⟨some 32, none, false, .bin .neq (.tmp 30) (.tmp 31)⟩,
⟨some 33, none, false, .mov (.tmp 32)⟩,
⟨some 34, some (33, false), false, .fld 0 (some 0) (.tmp 1)⟩,
⟨some 35, some (33, false), false, .fld 3 none (.tmp 1)⟩,
⟨some 36, some (33, false), false, .len .sl (.tmp 35)⟩,
⟨some 37, some (33, false), false, .mov (.tmp 3)⟩,
⟨some 38, some (33, false), false, .bin .neq (.tmp 36) (.tmp 37)⟩,
⟨some 39, none, false, .pick (.tmp 33) (.const (.bool true)) (.tmp 38)⟩]) (.cond (.tmp 39) (.seq (.ops false [
⟨some 2, none, false, .mov (.const (.bool false))⟩]) .ret) .skip)) (.seq (.seq (.ops false [
⟨some 4, none, false, .mov (.const (.int .i64 0))⟩]) (.block 0 (.loop (.seq (.seq (.ops false [
⟨some 40, none, false, .mov (.tmp 4)⟩,
⟨some 41, none, false, .mov (.tmp 3)⟩,
⟨some 42, none, false, .bin .lss (.tmp 40) (.tmp 41)⟩]) (.cond (.tmp 42) .skip (.exit 0))) (.seq (.block 1 (.seq (.ops false [
⟨some 45, none, false, .fld 0 (some 0) (.tmp 1)⟩,
⟨some 46, none, false, .fld 2 none (.tmp 1)⟩,
⟨some 47, none, false, .mov (.tmp 4)⟩,
⟨some 48, none, false, .ixs 1 (.tmp 46) (.tmp 47)⟩,
⟨some 49, none, false, .ld1 (.tmp 48)⟩,
⟨some 50, none, false, .bin .lss (.tmp 49) (.const (.int .i64 0))⟩,
⟨some 51, none, false, .mov (.tmp 50)⟩,
⟨some 52, some (51, false), false, .fld 0 (some 0) (.tmp 1)⟩,
⟨some 53, some (51, false), false, .fld 2 none (.tmp 1)⟩,
⟨some 54, some (51, false), false, .mov (.tmp 4)⟩,
⟨some 55, some (51, false), false, .ixs 1 (.tmp 53) (.tmp 54)⟩,
⟨some 56, some (51, false), false, .ld1 (.tmp 55)⟩,
⟨some 57, some (51, false), false, .bin .gtr (.tmp 56) (.const (.int .i64 9000))⟩,
⟨some 58, none, false, .pick (.tmp 51) (.const (.bool true)) (.tmp 57)⟩,
⟨some 59, none, false, .mov (.tmp 58)⟩,
⟨some 60, some (59, false), false, .fld 0 (some 0) (.tmp 1)⟩,
⟨some 61, some (59, false), false, .fld 3 none (.tmp 1)⟩,
⟨some 62, some (59, false), false, .mov (.tmp 4)⟩,
⟨some 63, some (59, false), false, .ixs 1 (.tmp 61) (.tmp 62)⟩,
⟨some 64, some (59, false), false, .ld1 (.tmp 63)⟩,
⟨some 65, some (59, false), false, .bin .lss (.tmp 64) (.const (.int .i64 0))⟩,
⟨some 66, none, false, .pick (.tmp 59) (.const (.bool true)) (.tmp 65)⟩,
⟨some 67, none, false, .mov (.tmp 66)⟩,
⟨some 68, some (67, false), false, .fld 0 (some 0) (.tmp 1)⟩,
⟨some 69, some (67, false), false, .fld 3 none (.tmp 1)⟩,
⟨some 70, some (67, false), false, .mov (.tmp 4)⟩,
⟨some 71, some (67, false), false, .ixs 1 (.tmp 69) (.tmp 70)⟩,
⟨some 72, some (67, false), false, .ld1 (.tmp 71)⟩,
⟨some 73, some (67, false), false, .bin .gtr (.tmp 72) (.const (.int .i64 1000000))⟩,
⟨some 74, none, false, .pick (.tmp 67) (.const (.bool true)) (.tmp 73)⟩]) (.cond (.tmp 74) (.seq (.ops false [
⟨some 2, none, false, .mov (.const (.bool false))⟩]) .ret) .skip))) (.ops false [
⟨some 43, none, false, .mov (.tmp 4)⟩,
⟨some 44, none, false, .bin .add (.tmp 43) (.const (.int .i64 1))⟩,
⟨some 4, none, false, .mov (.tmp 44)⟩])))))) (.seq (.ops false [
⟨some 2, none, false, .mov (.const (.bool true))⟩]) .ret)))))) }
theorem pr29 : promFn 0 ⟨75, [1], [5, 9, 14, 19, 23, 25, 28, 34, 45, 52, 60, 68]⟩ ic29 = some ip29 := by kernel_rfl
/-- bandplan/bandplanref10.Total, with registers -/
def ip30 : IFn := { ntmps := 63, results := [.tmp 4, .tmp 5], code := (.seq (.ops false [
⟨some 2, none, false, .mov (.const undef)⟩,
⟨some 2, none, false, .regb 4 (.tmp 0)⟩,
⟨some 4, none, false, .mov (.const (.int .i64 0))⟩,
⟨some 5, none, false, .mov (.const (.bool false))⟩]) (.seq (.ops false [
⟨some 6, none, false, .mov (.const (.int .i64 0))⟩]) (.seq (.seq (.ops false [
⟨some 7, none, false, .mov (.const (.int .i64 0))⟩]) (.block 0 (.loop (.seq (.seq (.ops false [
⟨some 10, none, false, .mov (.tmp 7)⟩,
⟨some 11, none, false, .mov (.tmp 1)⟩,
⟨some 12, none, false, .len .sl (.tmp 11)⟩,
⟨some 13, none, false, .bin .lss (.tmp 10) (.tmp 12)⟩]) (.cond (.tmp 13) .skip (.exit 0))) (.seq (.block 1 (.seq (.seq (.ops true [
⟨some 16, none, false, .mov (.tmp 1)⟩,
⟨some 17, none, false, .mov (.tmp 7)⟩,
⟨some 18, none, false, .ixs 1 (.tmp 16) (.tmp 17)⟩,
⟨some 19, none, false, .ld1 (.tmp 18)⟩,
⟨some 20, none, false, .bin .lss (.tmp 19) (.const (.int .i64 0))⟩,
⟨some 21, none, false, .mov (.tmp 20)⟩,
⟨some 22, some (21, false), false, .mov (.tmp 1)⟩,
⟨some 23, some (21, false), false, .mov (.tmp 7)⟩,
⟨some 24, some (21, false), false, .ixs 1 (.tmp 22) (.tmp 23)⟩,
⟨some 25, some (21, false), false, .ld1 (.tmp 24)⟩,
⟨some 26, some (21, false), false, .fld 0 (some 0) (.tmp 2)⟩,
⟨some 27, some (21, false), false, .fld 0 none (.tmp 2)⟩,
⟨some 28, some (21, false), false, .fld 0 (some 0) (.tmp 2)⟩,
⟨some 29, some (21, false), false, .fld 1 none (.tmp 2)⟩,
⟨some 30, some (21, false), false, .bin .mul (.tmp 27) (.tmp 29)⟩,
⟨some 31, some (21, false), false, .bin .geq (.tmp 25) (.tmp 30)⟩,
⟨some 32, none, false, .pick (.tmp 21) (.const (.bool true)) (.tmp 31)⟩]) (.cond (.tmp 32) (.seq (.ops false [
⟨some 4, none, false, .mov (.const (.int .i64 0))⟩,
⟨some 5, none, false, .mov (.const (.bool false))⟩]) .ret) .skip)) (.seq (.ops false [
⟨some 8, none, false, .mov (.const (.bool false))⟩]) (.seq (.seq (.ops false [
⟨some 9, none, false, .mov (.const (.int .i64 0))⟩]) (.block 2 (.loop (.seq (.seq (.ops false [
⟨some 33, none, false, .mov (.tmp 9)⟩,
⟨some 34, none, false, .mov (.tmp 7)⟩,
⟨some 35, none, false, .bin .lss (.tmp 33) (.tmp 34)⟩]) (.cond (.tmp 35) .skip (.exit 2))) (.seq (.block 3 (.ops true [
⟨some 38, none, false, .mov (.tmp 8)⟩,
⟨some 39, none, false, .mov (.tmp 38)⟩,
⟨some 40, some (39, false), false, .mov (.tmp 1)⟩,
⟨some 41, some (39, false), false, .mov (.tmp 9)⟩,
⟨some 42, some (39, false), false, .ixs 1 (.tmp 40) (.tmp 41)⟩,
⟨some 43, some (39, false), false, .ld1 (.tmp 42)⟩,
⟨some 44, some (39, false), false, .mov (.tmp 1)⟩,
⟨some 45, some (39, false), false, .mov (.tmp 7)⟩,
⟨some 46, some (39, false), false, .ixs 1 (.tmp 44) (.tmp 45)⟩,
⟨some 47, some (39, false), false, .ld1 (.tmp 46)⟩,
⟨some 48, some (39, false), false, .bin .eql (.tmp 43) (.tmp 47)⟩,
⟨some 49, none, false, .pick (.tmp 39) (.const (.bool true)) (.tmp 48)⟩,
⟨some 8, none, false, .mov (.tmp 49)⟩])) (.ops false [
⟨some 36, none, false, .mov (.tmp 9)⟩,
⟨some 37, none, false, .bin .add (.tmp 36) (.const (.int .i64 1))⟩,
⟨some 9, none, false, .mov (.tmp 37)⟩])))))) (.seq (.ops false [
⟨some 50, none, false, .mov (.tmp 8)⟩,
⟨some 51, none, false, .una .not (.tmp 50)⟩]) (.cond (.tmp 51) (.ops true [
⟨some 52, none, false, .mov (.tmp 6)⟩,
⟨some 53, none, false, .fld 0 (some 0) (.tmp 2)⟩,
⟨some 54, none, false, .fld 3 none (.tmp 2)⟩,
⟨some 55, none, false, .mov (.tmp 1)⟩,
⟨some 56, none, false, .mov (.tmp 7)⟩,
⟨some 57, none, false, .ixs 1 (.tmp 55) (.tmp 56)⟩,
⟨some 58, none, false, .ld1 (.tmp 57)⟩,
⟨some 59, none, false, .ixs 1 (.tmp 54) (.tmp 58)⟩,
⟨some 60, none, false, .ld1 (.tmp 59)⟩,
⟨some 61, none, false, .bin .add (.tmp 52) (.tmp 60)⟩,
⟨some 6, none, false, .mov (.tmp 61)⟩]) .skip)))))) (.ops false [
⟨some 14, none, false, .mov (.tmp 7)⟩,
⟨some 15, none, false, .bin .add (.tmp 14) (.const (.int .i64 1))⟩,
⟨some 7, none, false, .mov (.tmp 15)⟩])))))) (.seq (.ops false [
⟨some 62, none, false, .mov (.tmp 6)⟩,
⟨some 4, none, false, .mov (.tmp 62)⟩,
⟨some 5, none, false, .mov (.const (.bool true))⟩]) .ret)))) }
theorem pr30 : promFn 0 ⟨63, [2], [26, 28, 53]⟩ ic30 = some ip30 := by kernel_rfl
/-- bandplan/bandplanlaw10.near, with registers -/
def ip31 : IFn := { ntmps := 9, results := [.tmp 4], code := (.seq (.ops false [
⟨some 2, none, false, .mov (.const undef)⟩,
⟨some 3, none, false, .mov (.const undef)⟩,
⟨some 2, none, false, .regb 2 (.tmp 0)⟩,
⟨some 3, none, false, .regb 2 (.tmp 1)⟩,
⟨some 4, none, false, .mov (.const (.bool false))⟩]) (.seq (.ops false [
⟨some 5, none, false, .fld 0 (some 2) (.tmp 2)⟩,
⟨some 6, none, false, .fld 0 (some 2) (.tmp 3)⟩,
⟨some 7, none, false, .call (.func 47) [.tmp 5, .tmp 6]⟩,
⟨some 8, none, false, .bin .leq (.tmp 7) (.const (.int .i64 1))⟩,
⟨some 4, none, false, .mov (.tmp 8)⟩]) .ret)) }
theorem pr31 : promFn 0 ⟨9, [2, 3], []⟩ ic31 = some ip31 := by kernel_rfl
/-- bandplan/terrain.Has, with registers -/
def ip32 : IFn := { ntmps := 23, results := [.tmp 4], code := (.seq (.ops false [
⟨some 2, none, false, .mov (.const undef)⟩,
⟨some 3, none, false, .mov (.const undef)⟩,
⟨some 2, none, false, .regb 4 (.tmp 0)⟩,
⟨some 3, none, false, .regb 2 (.tmp 1)⟩,
⟨some 4, none, false, .mov (.const (.bool false))⟩]) (.seq (.ops false [
⟨some 5, none, false, .fld 0 (some 0) (.tmp 3)⟩,
⟨some 6, none, false, .fld 0 none (.tmp 3)⟩,
⟨some 7, none, false, .fld 0 (some 0) (.tmp 2)⟩,
⟨some 8, none, false, .fld 0 none (.tmp 2)⟩,
⟨some 9, none, false, .bin .sub (.tmp 8) (.const (.int .i64 1))⟩,
⟨some 10, none, false, .call (.func 41) [.const (.int .i64 0), .tmp 6, .tmp 9]⟩,
⟨some 11, none, false, .mov (.tmp 10)⟩,
⟨some 12, some (11, true), false, .fld 0 (some 0) (.tmp 3)⟩,
⟨some 13, some (11, true), false, .fld 1 none (.tmp 3)⟩,
⟨some 14, some (11, true), false, .fld 0 (some 0) (.tmp 2)⟩,
⟨some 15, some (11, true), false, .fld 1 none (.tmp 2)⟩,
⟨some 16, some (11, true), false, .bin .sub (.tmp 15) (.const (.int .i64 1))⟩,
⟨some 17, some (11, true), false, .call (.func 41) [.const (.int .i64 0), .tmp 13, .tmp 16]⟩,
⟨some 18, none, false, .pick (.tmp 11) (.tmp 17) (.const (.bool false))⟩,
⟨some 19, none, false, .mov (.tmp 18)⟩,
⟨some 20, some (19, true), false, .fld 0 (some 4) (.tmp 2)⟩,
⟨some 21, some (19, true), false, .call (.func 15) [.tmp 20]⟩,
⟨some 22, none, false, .pick (.tmp 19) (.tmp 21) (.const (.bool false))⟩,
⟨some 4, none, false, .mov (.tmp 22)⟩]) .ret)) }
theorem pr32 : promFn 0 ⟨23, [2, 3], [5, 7, 12, 14]⟩ ic32 = some ip32 := by kernel_rfl
/-- bandplan/terrain.Index, with registers -/
def ip33 : IFn := { ntmps := 13, results := [.tmp 4, .tmp 5], code := (.seq (.ops false [
⟨some 2, none, false, .mov (.const undef)⟩,
⟨some 3, none, false, .mov (.const undef)⟩,
⟨some 2, none, false, .regb 4 (.tmp 0)⟩,
⟨some 3, none, false, .regb 2 (.tmp 1)⟩,
⟨some 4, none, false, .mov (.const (.int .i64 0))⟩,
⟨some 5, none, false, .mov (.const (.int .i64 0))⟩]) (.seq (.seq (.ops false [
⟨some 6, none, false, .fld 0 (some 4) (.tmp 2)⟩,
⟨some 7, none, false, .fld 0 (some 2) (.tmp 3)⟩,
⟨some 8, none, false, .call (.func 32) [.tmp 6, .tmp 7]⟩,
⟨some 9, none, false, .una .not (.tmp 8)⟩]) (.cond (.tmp 9) (.seq (.ops false [
⟨some 4, none, false, .mov (.const (.int .i64 0))⟩,
⟨some 5, none, false, .mov (.const (.int .i64 2))⟩]) .ret) .skip)) (.seq (.ops false [
⟨some 10, none, false, .fld 0 (some 4) (.tmp 2)⟩,
⟨some 11, none, false, .fld 0 (some 2) (.tmp 3)⟩,
⟨some 12, none, false, .call (.func 44) [.tmp 10, .tmp 11]⟩,
⟨some 4, none, false, .mov (.tmp 12)⟩,
⟨some 5, none, false, .mov (.const (.int .i64 0))⟩]) .ret))) }
theorem pr33 : promFn 0 ⟨13, [2, 3], []⟩ ic33 = some ip33 := by kernel_rfl
/-- bandplan/terrain.Ground, with registers -/
def ip34 : IFn := { ntmps := 17, results := [.tmp 4, .tmp 5], code := (.seq (.ops false [
⟨some 2, none, false, .mov (.const undef)⟩,
⟨some 3, none, false, .mov (.const undef)⟩,
⟨some 2, none, false, .regb 4 (.tmp 0)⟩,
⟨some 3, none, false, .regb 2 (.tmp 1)⟩,
⟨some 4, none, false, .mov (.const (.int .i64 0))⟩,
⟨some 5, none, false, .mov (.const (.int .i64 0))⟩]) (.seq (.seq (.ops false [
⟨some 6, none, false, .fld 0 (some 4) (.tmp 2)⟩,
⟨some 7, none, false, .fld 0 (some 2) (.tmp 3)⟩,
⟨some 8, none, false, .call (.func 32) [.tmp 6, .tmp 7]⟩,
⟨some 9, none, false, .una .not (.tmp 8)⟩]) (.cond (.tmp 9) (.seq (.ops false [
⟨some 4, none, false, .mov (.const (.int .i64 0))⟩,
⟨some 5, none, false, .mov (.const (.int .i64 2))⟩]) .ret) .skip)) (.seq (.ops true [
⟨some 10, none, false, .fld 0 (some 0) (.tmp 2)⟩,
⟨some 11, none, false, .fld 2 none (.tmp 2)⟩,
⟨some 12, none, false, .fld 0 (some 4) (.tmp 2)⟩,
⟨some 13, none, false, .fld 0 (some 2) (.tmp 3)⟩,
⟨some 14, none, true, .call (.func 44) [.tmp 12, .tmp 13]⟩,
⟨some 15, none, false, .ixs 1 (.tmp 11) (.tmp 14)⟩,
⟨some 16, none, false, .ld1 (.tmp 15)⟩,
⟨some 4, none, false, .mov (.tmp 16)⟩,
⟨some 5, none, false, .mov (.const (.int .i64 0))⟩]) .ret))) }
theorem pr34 : promFn 0 ⟨17, [2, 3], [10]⟩ ic34 = some ip34 := by kernel_rfl
/-- bandplan/terrain.People, with registers -/
def ip35 : IFn := { ntmps := 17, results := [.tmp 4, .tmp 5], code := (.seq (.ops false [
⟨some 2, none, false, .mov (.const undef)⟩,
⟨some 3, none, false, .mov (.const undef)⟩,
⟨some 2, none, false, .regb 4 (.tmp 0)⟩,
⟨some 3, none, false, .regb 2 (.tmp 1)⟩,
⟨some 4, none, false, .mov (.const (.int .i64 0))⟩,
⟨some 5, none, false, .mov (.const (.int .i64 0))⟩]) (.seq (.seq (.ops false [
⟨some 6, none, false, .fld 0 (some 4) (.tmp 2)⟩,
⟨some 7, none, false, .fld 0 (some 2) (.tmp 3)⟩,
⟨some 8, none, false, .call (.func 32) [.tmp 6, .tmp 7]⟩,
⟨some 9, none, false, .una .not (.tmp 8)⟩]) (.cond (.tmp 9) (.seq (.ops false [
⟨some 4, none, false, .mov (.const (.int .i64 0))⟩,
⟨some 5, none, false, .mov (.const (.int .i64 2))⟩]) .ret) .skip)) (.seq (.ops true [
⟨some 10, none, false, .fld 0 (some 0) (.tmp 2)⟩,
⟨some 11, none, false, .fld 3 none (.tmp 2)⟩,
⟨some 12, none, false, .fld 0 (some 4) (.tmp 2)⟩,
⟨some 13, none, false, .fld 0 (some 2) (.tmp 3)⟩,
⟨some 14, none, true, .call (.func 44) [.tmp 12, .tmp 13]⟩,
⟨some 15, none, false, .ixs 1 (.tmp 11) (.tmp 14)⟩,
⟨some 16, none, false, .ld1 (.tmp 15)⟩,
⟨some 4, none, false, .mov (.tmp 16)⟩,
⟨some 5, none, false, .mov (.const (.int .i64 0))⟩]) .ret))) }
theorem pr35 : promFn 0 ⟨17, [2, 3], [10]⟩ ic35 = some ip35 := by kernel_rfl
/-- bandplan/terrain.At, with registers -/
def ip36 : IFn := { ntmps := 28, results := [.rega 4 2, .tmp 5], code := (.seq (.ops false [
⟨some 2, none, false, .mov (.const undef)⟩,
⟨some 4, none, false, .mov (.const undef)⟩,
⟨some 2, none, false, .regb 4 (.tmp 0)⟩,
⟨some 4, none, false, .reg [.int .i64 0, .int .i64 0]⟩,
⟨some 5, none, false, .mov (.const (.int .i64 0))⟩]) (.seq (.seq (.ops false [
⟨some 6, none, false, .fld 0 (some 4) (.tmp 2)⟩,
⟨some 7, none, false, .call (.func 15) [.tmp 6]⟩,
⟨some 8, none, false, .una .not (.tmp 7)⟩,
⟨some 9, none, false, .mov (.tmp 8)⟩,
⟨some 10, some (9, false), false, .mov (.tmp 1)⟩,
⟨some 11, some (9, false), false, .fld 0 (some 0) (.tmp 2)⟩,
⟨some 12, some (9, false), false, .fld 2 none (.tmp 2)⟩,
⟨some 13, some (9, false), false, .len .sl (.tmp 12)⟩,
⟨some 14, some (9, false), false, .bin .sub (.tmp 13) (.const (.int .i64 1))⟩,
⟨some 15, some (9, false), false, .call (.func 41) [.const (.int .i64 0), .tmp 10, .tmp 14]⟩,
⟨some 16, some (9, false), false, .una .not (.tmp 15)⟩,
⟨some 17, none, false, .pick (.tmp 9) (.const (.bool true)) (.tmp 16)⟩]) (.cond (.tmp 17) (.seq (.ops false [
⟨some 18, none, false, .bld [.int .i64 0, .int .i64 0] []⟩,
⟨some 4, none, false, .upd 0 2 (.tmp 4) (.tmp 18)⟩,
⟨some 5, none, false, .mov (.const (.int .i64 2))⟩]) .ret) .skip)) (.seq (.ops true [
⟨some 19, none, false, .mov (.tmp 1)⟩,
⟨some 20, none, false, .fld 0 (some 0) (.tmp 2)⟩,
⟨some 21, none, false, .fld 0 none (.tmp 2)⟩,
⟨some 22, none, false, .bin .rem (.tmp 19) (.tmp 21)⟩,
⟨some 23, none, false, .mov (.tmp 1)⟩,
⟨some 24, none, false, .fld 0 (some 0) (.tmp 2)⟩,
⟨some 25, none, false, .fld 0 none (.tmp 2)⟩,
⟨some 26, none, false, .bin .quo (.tmp 23) (.tmp 25)⟩,
⟨some 27, none, false, .bld [.int .i64 0, .int .i64 0] [(0, 1, .tmp 22), (1, 1, .tmp 26)]⟩,
⟨some 4, none, false, .upd 0 2 (.tmp 4) (.tmp 27)⟩,
⟨some 5, none, false, .mov (.const (.int .i64 0))⟩]) .ret))) }
theorem pr36 : promFn 0 ⟨28, [2, 4], [11, 20, 24]⟩ ic36 = some ip36 := by kernel_rfl
/-- bandplan/bandplanref10.Index, with registers -/
def ip37 : IFn := { ntmps := 13, results := [.tmp 4], code := (.seq (.ops false [
⟨some 2, none, false, .mov (.const undef)⟩,
⟨some 3, none, false, .mov (.const undef)⟩,
⟨some 2, none, false, .regb 4 (.tmp 0)⟩,
⟨some 3, none, false, .regb 2 (.tmp 1)⟩,
⟨some 4, none, false, .mov (.const (.int .i64 0))⟩]) (.seq (.ops false [
⟨some 5, none, false, .fld 0 (some 0) (.tmp 3)⟩,
⟨some 6, none, false, .fld 1 none (.tmp 3)⟩,
⟨some 7, none, false, .fld 0 (some 0) (.tmp 2)⟩,
⟨some 8, none, false, .fld 0 none (.tmp 2)⟩,
⟨some 9, none, false, .bin .mul (.tmp 6) (.tmp 8)⟩,
⟨some 10, none, false, .fld 0 (some 0) (.tmp 3)⟩,
⟨some 11, none, false, .fld 0 none (.tmp 3)⟩,
⟨some 12, none, false, .bin .add (.tmp 9) (.tmp 11)⟩,
⟨some 4, none, false, .mov (.tmp 12)⟩]) .ret)) }
theorem pr37 : promFn 0 ⟨13, [2, 3], [5, 7, 10]⟩ ic37 = some ip37 := by kernel_rfl
/-- bandplan/bandplanref10.At, with registers -/
def ip38 : IFn := { ntmps := 14, results := [.rega 4 2], code := (.seq (.ops false [
⟨some 2, none, false, .mov (.const undef)⟩,
⟨some 4, none, false, .mov (.const undef)⟩,
⟨some 2, none, false, .regb 4 (.tmp 0)⟩,
⟨some 4, none, false, .reg [.int .i64 0, .int .i64 0]⟩]) (.seq (.ops true [
⟨some 5, none, false, .mov (.tmp 1)⟩,
⟨some 6, none, false, .fld 0 (some 0) (.tmp 2)⟩,
⟨some 7, none, false, .fld 0 none (.tmp 2)⟩,
⟨some 8, none, false, .bin .rem (.tmp 5) (.tmp 7)⟩,
⟨some 9, none, false, .mov (.tmp 1)⟩,
⟨some 10, none, false, .fld 0 (some 0) (.tmp 2)⟩,
⟨some 11, none, false, .fld 0 none (.tmp 2)⟩,
⟨some 12, none, false, .bin .quo (.tmp 9) (.tmp 11)⟩,
⟨some 13, none, false, .bld [.int .i64 0, .int .i64 0] [(0, 1, .tmp 8), (1, 1, .tmp 12)]⟩,
⟨some 4, none, false, .upd 0 2 (.tmp 4) (.tmp 13)⟩]) .ret)) }
theorem pr38 : promFn 0 ⟨14, [2, 4], [6, 10]⟩ ic38 = some ip38 := by kernel_rfl
/-- bandplan/terrain.Equal, with registers -/
def ip39 : IFn := { ntmps := 27, results := [.tmp 4], code := (.seq (.ops false [
⟨some 2, none, false, .mov (.const undef)⟩,
⟨some 3, none, false, .mov (.const undef)⟩,
⟨some 2, none, false, .regb 4 (.tmp 0)⟩,
⟨some 3, none, false, .regb 4 (.tmp 1)⟩,
⟨some 4, none, false, .mov (.const (.bool false))⟩]) (.seq (.ops false [
⟨some 5, none, false, .mov (.func 50)⟩]) (.seq (.ops true [
⟨some 6, none, false, .mov (.tmp 5)⟩,
⟨some 7, none, false, .fld 0 (some 4) (.tmp 2)⟩,
⟨some 8, none, true, .call (.tmp 6) [.tmp 7]⟩,
⟨some 9, none, false, .mov (.tmp 5)⟩,
⟨some 10, none, false, .fld 0 (some 4) (.tmp 3)⟩,
⟨some 11, none, false, .call (.tmp 9) [.tmp 10]⟩,
⟨some 12, none, false, .eq (.flat [.i, .i]) false (.tmp 8) (.tmp 11)⟩,
⟨some 13, none, false, .mov (.tmp 12)⟩,
⟨some 14, some (13, true), false, .fld 0 (some 0) (.tmp 2)⟩,
⟨some 15, some (13, true), false, .fld 2 none (.tmp 2)⟩,
⟨some 16, some (13, true), false, .fld 0 (some 0) (.tmp 3)⟩,
⟨some 17, some (13, true), false, .fld 2 none (.tmp 3)⟩,
⟨some 18, some (13, true), false, .call (.func 51) [.tmp 15, .tmp 17]⟩,
⟨some 19, none, false, .pick (.tmp 13) (.tmp 18) (.const (.bool false))⟩,
⟨some 20, none, false, .mov (.tmp 19)⟩,
⟨some 21, some (20, true), false, .fld 0 (some 0) (.tmp 2)⟩,
⟨some 22, some (20, true), false, .fld 3 none (.tmp 2)⟩,
⟨some 23, some (20, true), false, .fld 0 (some 0) (.tmp 3)⟩,
⟨some 24, some (20, true), false, .fld 3 none (.tmp 3)⟩,
⟨some 25, some (20, true), false, .call (.func 51) [.tmp 22, .tmp 24]⟩,
⟨some 26, none, false, .pick (.tmp 20) (.tmp 25) (.const (.bool false))⟩,
⟨some 4, none, false, .mov (.tmp 26)⟩]) .ret))) }
theorem pr39 : promFn 0 ⟨27, [2, 3], [14, 16, 21, 23]⟩ ic39 = some ip39 := by kernel_rfl
/-- bandplan/terrain.Copy, with registers -/
def ip40 : IFn := { ntmps := 14, results := [.rega 2 4], code := (.seq (.ops false [
⟨some 1, none, false, .mov (.const undef)⟩,
⟨some 2, none, false, .mov (.const undef)⟩,
⟨some 1, none, false, .regb 4 (.tmp 0)⟩,
⟨some 2, none, false, .reg [.int .i64 0, .int .i64 0, .slice none 0 0, .slice none 0 0]⟩]) (.seq (.ops true [
⟨some 3, none, false, .fld 0 (some 0) (.tmp 1)⟩,
⟨some 4, none, false, .fld 0 none (.tmp 1)⟩,
⟨some 5, none, false, .fld 0 (some 0) (.tmp 1)⟩,
⟨some 6, none, false, .fld 1 none (.tmp 1)⟩,
⟨some 7, none, false, .fld 0 (some 0) (.tmp 1)⟩,
⟨some 8, none, false, .fld 2 none (.tmp 1)⟩,
⟨some 9, none, true, .call (.func 52) [.tmp 8]⟩,
⟨some 10, none, false, .fld 0 (some 0) (.tmp 1)⟩,
⟨some 11, none, false, .fld 3 none (.tmp 1)⟩,
⟨some 12, none, true, .call (.func 52) [.tmp 11]⟩,
⟨some 13, none, false, .bld [.int .i64 0, .int .i64 0, .slice none 0 0, .slice none 0 0] [(0, 1, .tmp 4), (1, 1, .tmp 6), (2, 1, .tmp 9), (3, 1, .tmp 12)]⟩,
⟨some 2, none, false, .upd 0 4 (.tmp 2) (.tmp 13)⟩]) .ret)) }
theorem pr40 : promFn 0 ⟨14, [1, 2], [3, 5, 7, 10]⟩ ic40 = some ip40 := by kernel_rfl
/-- bandplan/terrain.within[int], with registers -/
def ip41 : IFn := { ntmps := 15, results := [.tmp 6], code := (.seq (.ops false [
⟨some 6, none, false, .mov (.const (.bool false))⟩]) (.seq (.ops false [
⟨some 7, none, false, .mov (.tmp 0)⟩,
⟨some 8, none, false, .mov (.tmp 1)⟩,
⟨some 9, none, false, .bin .leq (.tmp 7) (.tmp 8)⟩,
⟨some 10, none, false, .mov (.tmp 9)⟩,
⟨some 11, some (10, true), false, .mov (.tmp 1)⟩,
⟨some 12, some (10, true), false, .mov (.tmp 2)⟩,
⟨some 13, some (10, true), false, .bin .leq (.tmp 11) (.tmp 12)⟩,
⟨some 14, none, false, .pick (.tmp 10) (.tmp 13) (.const (.bool false))⟩,
⟨some 6, none, false, .mov (.tmp 14)⟩]) .ret)) }
theorem pr41 : promFn 0 ⟨15, [], []⟩ ic41 = some ip41 := by kernel_rfl
/-- slices.Repeat[[]int,int], with registers -/
def ip42 : IFn := { ntmps := 48, results := [.tmp 4], code := (.seq (.ops false [
⟨some 4, none, false, .mov (.const (Value.slice none 0 0))⟩]) (.seq (.seq (.ops false [
⟨some 9, none, false, .mov (.tmp 1)⟩,
⟨some 10, none, false, .bin .lss (.tmp 9) (.const (.int .i64 0))⟩]) (.cond (.tmp 10) (.ops false [
⟨some 11, none, false, .mki 9 (.const (.string ⟨#[99, 97, 110, 110, 111, 116, 32, 98, 101, 32, 110, 101, 103, 97, 116, 105, 118, 101]⟩))⟩,
⟨none, none, false, .pan (.tmp 11)⟩]) .skip)) (.seq (.ops false [
⟨some 13, none, false, .mov (.tmp 0)⟩,
⟨some 14, none, false, .len .sl (.tmp 13)⟩,
⟨some 15, none, false, .cnv .u64 (.tmp 14)⟩,
⟨some 16, none, false, .mov (.tmp 1)⟩,
⟨some 17, none, false, .cnv .u64 (.tmp 16)⟩,
⟨some 18, none, false, .call (.func 53) [.tmp 15, .tmp 17]⟩,
⟨some 12, none, false, .mov (.tmp 18)⟩,
⟨some 19, none, false, .ext (.tmp 12) 0⟩,
⟨some 20, none, false, .ext (.tmp 12) 1⟩,
⟨some 5, none, false, .mov (.tmp 19)⟩,
⟨some 6, none, false, .mov (.tmp 20)⟩]) (.seq (.seq (.ops false [
⟨some 21, none, false, .mov (.tmp 5)⟩,
⟨some 22, none, false, .bin .gtr (.tmp 21) (.const (.int .u64 0))⟩,
⟨some 23, none, false, .mov (.tmp 22)⟩,
⟨some 24, some (23, false), false, .mov (.tmp 6)⟩,
⟨some 25, some (23, false), false, .bin .gtr (.tmp 24) (.const (.int .u64 9223372036854775807))⟩,
⟨some 26, none, false, .pick (.tmp 23) (.const (.bool true)) (.tmp 25)⟩]) (.cond (.tmp 26) (.ops false [
⟨some 27, none, false, .mki 9 (.const (.string ⟨#[116, 104, 101, 32, 114, 101, 115, 117, 108, 116, 32, 111, 102, 32, 40, 108, 101, 110, 40, 120, 41, 32, 42, 32, 99, 111, 117, 110, 116, 41, 32, 111, 118, 101, 114, 102, 108, 111, 119, 115]⟩))⟩,
⟨none, none, false, .pan (.tmp 27)⟩]) .skip)) (.seq (.ops false [
⟨some 28, none, false, .mov (.tmp 6)⟩,
⟨some 29, none, false, .cnv .i64 (.tmp 28)⟩,
⟨some 30, none, false, .mks 1 8 [.int .i64 0] (.tmp 29) (.tmp 29)⟩,
⟨some 7, none, false, .mov (.tmp 30)⟩]) (.seq (.ops false [
⟨some 31, none, false, .mov (.tmp 7)⟩,
⟨some 32, none, false, .mov (.tmp 0)⟩,
⟨some 33, none, false, .cpy 1 (.tmp 31) (.tmp 32)⟩,
⟨some 8, none, false, .mov (.tmp 33)⟩]) (.seq (.block 0 (.loop (.seq (.seq (.ops false [
⟨some 34, none, false, .mov (.tmp 8)⟩,
⟨some 35, none, false, .mov (.tmp 7)⟩,
⟨some 36, none, false, .len .sl (.tmp 35)⟩,
⟨some 37, none, false, .bin .lss (.tmp 34) (.tmp 36)⟩]) (.cond (.tmp 37) .skip (.exit 0))) (.block 1 (.ops true [
⟨some 38, none, false, .mov (.tmp 8)⟩,
⟨some 39, none, false, .mov (.tmp 7)⟩,
⟨some 40, none, false, .mov (.tmp 8)⟩,
⟨some 41, none, false, .slc (.sl 1) (.tmp 39) (some (.tmp 40)) none none⟩,
⟨some 42, none, false, .mov (.tmp 7)⟩,
⟨some 43, none, false, .mov (.tmp 8)⟩,
⟨some 44, none, false, .slc (.sl 1) (.tmp 42) none (some (.tmp 43)) none⟩,
⟨some 45, none, false, .cpy 1 (.tmp 41) (.tmp 44)⟩,
⟨some 46, none, false, .bin .add (.tmp 38) (.tmp 45)⟩,
⟨some 8, none, false, .mov (.tmp 46)⟩]))))) (.seq (.ops false [
⟨some 47, none, false, .mov (.tmp 7)⟩,
⟨some 4, none, false, .mov (.tmp 47)⟩]) .ret)))))))) }
theorem pr42 : promFn 0 ⟨48, [], []⟩ ic42 = some ip42 := by kernel_rfl
/-- bandplan/terrain.all[int], with registers -/
def ip43 : IFn := { ntmps := 11, results := [.tmp 6], code := (.seq (.ops false [
⟨some 3, none, false, .box 1 (.tmp 0)⟩,
⟨some 5, none, false, .box 1 (.tmp 2)⟩,
⟨some 6, none, false, .mov (.const (.bool false))⟩]) (.seq (.ops false [
⟨some 7, none, false, .mov (.tmp 1)⟩,
⟨some 8, none, false, .fun_ (Fn.func 55) [] [.tmp 3, .tmp 5]⟩,
⟨some 9, none, false, .call (.func 54) [.tmp 7, .tmp 8]⟩,
⟨some 10, none, false, .una .not (.tmp 9)⟩,
⟨some 6, none, false, .mov (.tmp 10)⟩]) .ret)) }
theorem pr43 : promFn 0 ⟨11, [], []⟩ ic43 = some ip43 := by kernel_rfl
/-- bandplan/terrain.index, with registers -/
def ip44 : IFn := { ntmps := 13, results := [.tmp 4], code := (.seq (.ops false [
⟨some 2, none, false, .mov (.const undef)⟩,
⟨some 3, none, false, .mov (.const undef)⟩,
⟨some 2, none, false, .regb 4 (.tmp 0)⟩,
⟨some 3, none, false, .regb 2 (.tmp 1)⟩,
⟨some 4, none, false, .mov (.const (.int .i64 0))⟩]) (.seq (.ops false [
⟨some 5, none, false, .fld 0 (some 0) (.tmp 3)⟩,
⟨some 6, none, false, .fld 1 none (.tmp 3)⟩,
⟨some 7, none, false, .fld 0 (some 0) (.tmp 2)⟩,
⟨some 8, none, false, .fld 0 none (.tmp 2)⟩,
⟨some 9, none, false, .bin .mul (.tmp 6) (.tmp 8)⟩,
⟨some 10, none, false, .fld 0 (some 0) (.tmp 3)⟩,
⟨some 11, none, false, .fld 0 none (.tmp 3)⟩,
⟨some 12, none, false, .bin .add (.tmp 9) (.tmp 11)⟩,
⟨some 4, none, false, .mov (.tmp 12)⟩]) .ret)) }
theorem pr44 : promFn 0 ⟨13, [2, 3], [5, 7, 10]⟩ ic44 = some ip44 := by kernel_rfl
/-- bandplan/terrain.abs, with registers -/
def ip45 : IFn := { ntmps := 7, results := [.tmp 2], code := (.seq (.ops false [
⟨some 2, none, false, .mov (.const (.int .i64 0))⟩]) (.seq (.ops false [
⟨some 3, none, false, .mov (.tmp 0)⟩,
⟨some 4, none, false, .mov (.tmp 0)⟩,
⟨some 5, none, false, .una .neg (.tmp 4)⟩,
⟨some 6, none, false, .mnx true [.tmp 3, .tmp 5]⟩,
⟨some 2, none, false, .mov (.tmp 6)⟩]) .ret)) }
theorem pr45 : promFn 0 ⟨7, [], []⟩ ic45 = some ip45 := by kernel_rfl
/-- bandplan/terrain.round, with registers -/
def ip46 : IFn := { ntmps := 27, results := [.tmp 8], code := (.seq (.ops false [
⟨some 8, none, false, .mov (.const (.int .i64 0))⟩]) (.seq (.ops false [
⟨some 9, none, false, .mov (.tmp 0)⟩,
⟨some 10, none, false, .mov (.tmp 1)⟩,
⟨some 11, none, false, .bin .mul (.const (.int .i64 2)) (.tmp 10)⟩,
⟨some 12, none, false, .mov (.tmp 2)⟩,
⟨some 13, none, false, .bin .mul (.tmp 11) (.tmp 12)⟩,
⟨some 14, none, false, .mov (.tmp 3)⟩,
⟨some 15, none, false, .bin .add (.tmp 13) (.tmp 14)⟩,
⟨some 16, none, false, .mov (.tmp 3)⟩,
⟨some 17, none, false, .bin .mul (.const (.int .i64 2)) (.tmp 16)⟩,
⟨some 18, none, false, .mov (.tmp 3)⟩,
⟨some 19, none, false, .bin .mul (.tmp 17) (.tmp 18)⟩,
⟨some 20, none, false, .bin .add (.tmp 15) (.tmp 19)⟩,
⟨some 21, none, false, .mov (.tmp 3)⟩,
⟨some 22, none, false, .bin .mul (.const (.int .i64 2)) (.tmp 21)⟩,
⟨some 23, none, false, .bin .quo (.tmp 20) (.tmp 22)⟩,
⟨some 24, none, false, .bin .add (.tmp 9) (.tmp 23)⟩,
⟨some 25, none, false, .mov (.tmp 3)⟩,
⟨some 26, none, false, .bin .sub (.tmp 24) (.tmp 25)⟩,
⟨some 8, none, false, .mov (.tmp 26)⟩]) .ret)) }
theorem pr46 : promFn 0 ⟨27, [], []⟩ ic46 = some ip46 := by kernel_rfl
/-- bandplan/bandplanref10.Span, with registers -/
def ip47 : IFn := { ntmps := 44, results := [.tmp 4], code := (.seq (.ops false [
⟨some 2, none, false, .mov (.const undef)⟩,
⟨some 3, none, false, .mov (.const undef)⟩,
⟨some 2, none, false, .regb 2 (.tmp 0)⟩,
⟨some 3, none, false, .regb 2 (.tmp 1)⟩,
⟨some 4, none, false, .mov (.const (.int .i64 0))⟩]) (.seq (.ops false [
⟨some 8, none, false, .fld 0 (some 0) (.tmp 3)⟩,
⟨some 9, none, false, .fld 0 none (.tmp 3)⟩,
⟨some 10, none, false, .fld 0 (some 0) (.tmp 2)⟩,
⟨some 11, none, false, .fld 0 none (.tmp 2)⟩,
⟨some 12, none, false, .bin .sub (.tmp 9) (.tmp 11)⟩,
⟨some 13, none, false, .fld 0 (some 0) (.tmp 2)⟩,
⟨some 14, none, false, .fld 0 none (.tmp 2)⟩,
⟨some 15, none, false, .fld 0 (some 0) (.tmp 3)⟩,
⟨some 16, none, false, .fld 0 none (.tmp 3)⟩,
⟨some 17, none, false, .bin .sub (.tmp 14) (.tmp 16)⟩,
⟨some 18, none, false, .fld 0 (some 0) (.tmp 3)⟩,
⟨some 19, none, false, .fld 1 none (.tmp 3)⟩,
⟨some 20, none, false, .fld 0 (some 0) (.tmp 2)⟩,
⟨some 21, none, false, .fld 1 none (.tmp 2)⟩,
⟨some 22, none, false, .bin .sub (.tmp 19) (.tmp 21)⟩,
⟨some 23, none, false, .fld 0 (some 0) (.tmp 2)⟩,
⟨some 24, none, false, .fld 1 none (.tmp 2)⟩,
⟨some 25, none, false, .fld 0 (some 0) (.tmp 3)⟩,
⟨some 26, none, false, .fld 1 none (.tmp 3)⟩,
⟨some 27, none, false, .bin .sub (.tmp 24) (.tmp 26)⟩,
⟨some 28, none, false, .bsl 4 [.int .i64 0, .int .i64 0, .int .i64 0, .int .i64 0] [(0, 1, .tmp 12), (1, 1, .tmp 17), (2, 1, .tmp 22), (3, 1, .tmp 27)]⟩,
⟨some 5, none, false, .mov (.tmp 28)⟩]) (.seq (.ops false [
⟨some 6, none, false, .mov (.const (.int .i64 0))⟩]) (.seq (.seq (.ops false [
⟨some 7, none, false, .mov (.const (.int .i64 0))⟩]) (.block 0 (.loop (.seq (.seq (.ops false [
⟨some 29, none, false, .mov (.tmp 7)⟩,
⟨some 30, none, false, .bin .lss (.tmp 29) (.const (.int .i64 4))⟩]) (.cond (.tmp 30) .skip (.exit 0))) (.seq (.block 1 (.seq (.ops false [
⟨some 33, none, false, .mov (.tmp 5)⟩,
⟨some 34, none, false, .mov (.tmp 7)⟩,
⟨some 35, none, false, .ixs 1 (.tmp 33) (.tmp 34)⟩,
⟨some 36, none, false, .ld1 (.tmp 35)⟩,
⟨some 37, none, false, .mov (.tmp 6)⟩,
⟨some 38, none, false, .bin .gtr (.tmp 36) (.tmp 37)⟩]) (.cond (.tmp 38) (.ops false [
⟨some 39, none, false, .mov (.tmp 5)⟩,
⟨some 40, none, false, .mov (.tmp 7)⟩,
⟨some 41, none, false, .ixs 1 (.tmp 39) (.tmp 40)⟩,
⟨some 42, none, false, .ld1 (.tmp 41)⟩,
⟨some 6, none, false, .mov (.tmp 42)⟩]) .skip))) (.ops false [
⟨some 31, none, false, .mov (.tmp 7)⟩,
⟨some 32, none, false, .bin .add (.tmp 31) (.const (.int .i64 1))⟩,
⟨some 7, none, false, .mov (.tmp 32)⟩])))))) (.seq (.ops false [
⟨some 43, none, false, .mov (.tmp 6)⟩,
⟨some 4, none, false, .mov (.tmp 43)⟩]) .ret))))) }
theorem pr47 : promFn 0 ⟨44, [2, 3], [8, 10, 13, 15, 18, 20, 23, 25]⟩ ic47 = some ip47 := by kernel_rfl
/-- bandplan/bandplanref10.Floor, with registers -/
def ip48 : IFn := { ntmps := 16, results := [.tmp 4], code := (.seq (.ops false [
⟨some 4, none, false, .mov (.const (.int .i64 0))⟩]) (.seq (.ops false [
⟨some 6, none, false, .mov (.tmp 0)⟩,
⟨some 7, none, false, .mov (.tmp 1)⟩,
⟨some 8, none, false, .bin .quo (.tmp 6) (.tmp 7)⟩,
⟨some 5, none, false, .mov (.tmp 8)⟩]) (.seq (.seq (.ops false [
⟨some 9, none, false, .mov (.tmp 0)⟩,
⟨some 10, none, false, .mov (.tmp 1)⟩,
⟨some 11, none, false, .bin .rem (.tmp 9) (.tmp 10)⟩,
⟨some 12, none, false, .bin .lss (.tmp 11) (.const (.int .i64 0))⟩]) (.cond (.tmp 12) (.ops false [
⟨some 13, none, false, .mov (.tmp 5)⟩,
⟨some 14, none, false, .bin .sub (.tmp 13) (.const (.int .i64 1))⟩,
⟨some 5, none, false, .mov (.tmp 14)⟩]) .skip)) (.seq (.ops false [
⟨some 15, none, false, .mov (.tmp 5)⟩,
⟨some 4, none, false, .mov (.tmp 15)⟩]) .ret)))) }
theorem pr48 : promFn 0 ⟨16, [], []⟩ ic48 = some ip48 := by kernel_rfl
/-- bandplan/bandplanref10.Between, with registers -/
def ip49 : IFn := { ntmps := 25, results := [.tmp 6], code := (.seq (.ops false [
⟨some 6, none, false, .mov (.const (.bool false))⟩]) (.seq (.ops false [
⟨some 7, none, false, .mov (.tmp 0)⟩,
⟨some 8, none, false, .mov (.tmp 1)⟩,
⟨some 9, none, false, .bin .geq (.tmp 7) (.tmp 8)⟩,
⟨some 10, none, false, .mov (.tmp 9)⟩,
⟨some 11, some (10, true), false, .mov (.tmp 0)⟩,
⟨some 12, some (10, true), false, .mov (.tmp 2)⟩,
⟨some 13, some (10, true), false, .bin .leq (.tmp 11) (.tmp 12)⟩,
⟨some 14, none, false, .pick (.tmp 10) (.tmp 13) (.const (.bool false))⟩,
⟨some 15, none, false, .mov (.tmp 14)⟩,
⟨some 16, some (15, false), false, .mov (.tmp 0)⟩,
⟨some 17, some (15, false), false, .mov (.tmp 2)⟩,
⟨some 18, some (15, false), false, .bin .geq (.tmp 16) (.tmp 17)⟩,
⟨some 19, some (15, false), false, .mov (.tmp 18)⟩,
⟨some 20, some (19, true), false, .mov (.tmp 0)⟩,
⟨some 21, some (19, true), false, .mov (.tmp 1)⟩,
⟨some 22, some (19, true), false, .bin .leq (.tmp 20) (.tmp 21)⟩,
⟨some 23, some (15, false), false, .pick (.tmp 19) (.tmp 22) (.const (.bool false))⟩,
⟨some 24, none, false, .pick (.tmp 15) (.const (.bool true)) (.tmp 23)⟩,
⟨some 6, none, false, .mov (.tmp 24)⟩]) .ret)) }
theorem pr49 : promFn 0 ⟨25, [], []⟩ ic49 = some ip49 := by kernel_rfl
/-- bandplan/terrain.Equal$1, with registers -/
def ip50 : IFn := { ntmps := 8, results := [.rega 2 2], code := (.seq (.ops false [
⟨some 1, none, false, .mov (.const undef)⟩,
⟨some 2, none, false, .mov (.const undef)⟩,
⟨some 1, none, false, .regb 4 (.tmp 0)⟩,
⟨some 2, none, false, .reg [.int .i64 0, .int .i64 0]⟩]) (.seq (.ops false [
⟨some 3, none, false, .fld 0 (some 0) (.tmp 1)⟩,
⟨some 4, none, false, .fld 0 none (.tmp 1)⟩,
⟨some 5, none, false, .fld 0 (some 0) (.tmp 1)⟩,
⟨some 6, none, false, .fld 1 none (.tmp 1)⟩,
⟨some 7, none, false, .bld [.int .i64 0, .int .i64 0] [(0, 1, .tmp 4), (1, 1, .tmp 6)]⟩,
⟨some 2, none, false, .upd 0 2 (.tmp 2) (.tmp 7)⟩]) .ret)) }
theorem pr50 : promFn 0 ⟨8, [1, 2], [3, 5]⟩ ic50 = some ip50 := by kernel_rfl
/-- slices.Equal[[]int,int], with registers -/
def ip51 : IFn := { ntmps := 26, results := [.tmp 4], code := (.seq (.ops false [
⟨some 4, none, false, .mov (.const (.bool false))⟩]) (.seq (.seq (.ops false [
⟨some 6, none, false, .mov (.tmp 0)⟩,
⟨some 7, none, false, .len .sl (.tmp 6)⟩,
⟨some 8, none, false, .mov (.tmp 1)⟩,
⟨some 9, none, false, .len .sl (.tmp 8)⟩,
⟨some 10, none, false, .bin .neq (.tmp 7) (.tmp 9)⟩]) (.cond (.tmp 10) (.seq (.ops false [
⟨some 4, none, false, .mov (.const (.bool false))⟩]) .ret) .skip)) (.seq (.seq (.ops false [
⟨some 11, none, false, .mov (.tmp 0)⟩,
⟨some 12, none, false, .len .sl (.tmp 11)⟩,
⟨some 13, none, false, .mov (.const (.int .i64 0))⟩]) (.block 0 (.loop (.seq (.ops false [
⟨some 14, none, false, .bin .lss (.tmp 13) (.tmp 12)⟩]) (.seq (.cond (.tmp 14) .skip (.exit 0)) (.seq (.block 1 (.seq (.ops false [
⟨some 15, none, false, .mov (.tmp 13)⟩,
⟨some 5, none, false, .mov (.tmp 15)⟩]) (.seq (.ops true [
⟨some 16, none, false, .mov (.tmp 0)⟩,
⟨some 17, none, false, .mov (.tmp 5)⟩,
⟨some 18, none, false, .ixs 1 (.tmp 16) (.tmp 17)⟩,
⟨some 19, none, false, .ld1 (.tmp 18)⟩,
⟨some 20, none, false, .mov (.tmp 1)⟩,
⟨some 21, none, false, .mov (.tmp 5)⟩,
⟨some 22, none, false, .ixs 1 (.tmp 20) (.tmp 21)⟩,
⟨some 23, none, false, .ld1 (.tmp 22)⟩,
⟨some 24, none, false, .bin .neq (.tmp 19) (.tmp 23)⟩]) (.cond (.tmp 24) (.seq (.ops false [
⟨some 4, none, false, .mov (.const (.bool false))⟩]) .ret) .skip)))) (.ops false [
⟨some 25, none, false, .bin .add (.tmp 13) (.const (.int .i64 1))⟩,
⟨some 13, none, false, .mov (.tmp 25)⟩]))))))) (.seq (.ops false [
⟨some 4, none, false, .mov (.const (.bool true))⟩]) .ret)))) }
theorem pr51 : promFn 0 ⟨26, [], []⟩ ic51 = some ip51 := by kernel_rfl
/-- slices.Clone[[]int,int], with registers -/
def ip52 : IFn := { ntmps := 8, results := [.tmp 2], code := (.seq (.ops false [
⟨some 2, none, false, .mov (.const (Value.slice none 0 0))⟩]) (.seq (.seq (.ops false [
⟨some 3, none, false, .mov (.tmp 0)⟩,
⟨some 4, none, false, .eq .sli false (.tmp 3) (.const (Value.slice none 0 0))⟩]) (.cond (.tmp 4) (.seq (.ops false [
⟨some 2, none, false, .mov (.const (Value.slice none 0 0))⟩]) .ret) .skip)) (.seq (.ops false [
⟨some 5, none, false, .bsl 0 [] []⟩,
⟨some 6, none, false, .mov (.tmp 0)⟩,
⟨some 7, none, false, .app 1 8 (.tmp 5) (.tmp 6)⟩,
⟨some 2, none, false, .mov (.tmp 7)⟩]) .ret))) }
theorem pr52 : promFn 0 ⟨8, [], []⟩ ic52 = some ip52 := by kernel_rfl
/-- math/bits.Mul, with registers -/
def ip53 : IFn := { ntmps := 30, results := [.tmp 4, .tmp 5], code := (.seq (.ops false [
⟨some 4, none, false, .mov (.const (.int .u64 0))⟩,
⟨some 5, none, false, .mov (.const (.int .u64 0))⟩]) (.seq (.cond (.const (.bool false)) (.seq (.ops false [
⟨some 11, none, false, .mov (.tmp 0)⟩,
⟨some 12, none, false, .cnv .u32 (.tmp 11)⟩,
⟨some 13, none, false, .mov (.tmp 1)⟩,
⟨some 14, none, false, .cnv .u32 (.tmp 13)⟩,
⟨some 15, none, false, .call (.func 56) [.tmp 12, .tmp 14]⟩,
⟨some 10, none, false, .mov (.tmp 15)⟩,
⟨some 16, none, false, .ext (.tmp 10) 0⟩,
⟨some 17, none, false, .ext (.tmp 10) 1⟩,
⟨some 6, none, false, .mov (.tmp 16)⟩,
⟨some 7, none, false, .mov (.tmp 17)⟩]) (.seq (.ops false [
⟨some 18, none, false, .mov (.tmp 6)⟩,
⟨some 19, none, false, .cnv .u64 (.tmp 18)⟩,
⟨some 20, none, false, .mov (.tmp 7)⟩,
⟨some 21, none, false, .cnv .u64 (.tmp 20)⟩,
⟨some 4, none, false, .mov (.tmp 19)⟩,
⟨some 5, none, false, .mov (.tmp 21)⟩]) .ret)) .skip) (.seq (.ops false [
⟨some 23, none, false, .mov (.tmp 0)⟩,
⟨some 24, none, false, .mov (.tmp 1)⟩,
⟨some 25, none, false, .call (.func 57) [.tmp 23, .tmp 24]⟩,
⟨some 22, none, false, .mov (.tmp 25)⟩,
⟨some 26, none, false, .ext (.tmp 22) 0⟩,
⟨some 27, none, false, .ext (.tmp 22) 1⟩,
⟨some 8, none, false, .mov (.tmp 26)⟩,
⟨some 9, none, false, .mov (.tmp 27)⟩]) (.seq (.ops false [
⟨some 28, none, false, .mov (.tmp 8)⟩,
⟨some 29, none, false, .mov (.tmp 9)⟩,
⟨some 4, none, false, .mov (.tmp 28)⟩,
⟨some 5, none, false, .mov (.tmp 29)⟩]) .ret)))) }
theorem pr53 : promFn 0 ⟨30, [], []⟩ ic53 = some ip53 := by kernel_rfl
/-- slices.ContainsFunc[[]int,int], with registers -/
def ip54 : IFn := { ntmps := 9, results := [.tmp 4], code := (.seq (.ops false [
⟨some 4, none, false, .mov (.const (.bool false))⟩]) (.seq (.ops false [
⟨some 5, none, false, .mov (.tmp 0)⟩,
⟨some 6, none, false, .mov (.tmp 1)⟩,
⟨some 7, none, false, .call (.func 58) [.tmp 5, .tmp 6]⟩,
⟨some 8, none, false, .bin .geq (.tmp 7) (.const (.int .i64 0))⟩,
⟨some 4, none, false, .mov (.tmp 8)⟩]) .ret)) }
theorem pr54 : promFn 0 ⟨9, [], []⟩ ic54 = some ip54 := by kernel_rfl
/-- bandplan/terrain.all[int]$1, with registers -/
def ip55 : IFn := { ntmps := 10, results := [.tmp 4], code := (.seq (.ops false [
⟨some 4, none, false, .mov (.const (.bool false))⟩]) (.seq (.ops false [
⟨some 5, none, false, .ld1 (.tmp 1)⟩,
⟨some 6, none, false, .mov (.tmp 0)⟩,
⟨some 7, none, false, .ld1 (.tmp 2)⟩,
⟨some 8, none, false, .call (.func 41) [.tmp 5, .tmp 6, .tmp 7]⟩,
⟨some 9, none, false, .una .not (.tmp 8)⟩,
⟨some 4, none, false, .mov (.tmp 9)⟩]) .ret)) }
theorem pr55 : promFn 0 ⟨10, [], []⟩ ic55 = some ip55 := by kernel_rfl
/-- math/bits.Mul32, with registers -/
def ip56 : IFn := { ntmps := 17, results := [.tmp 4, .tmp 5], code := (.seq (.ops false [
⟨some 4, none, false, .mov (.const (.int .u32 0))⟩,
⟨some 5, none, false, .mov (.const (.int .u32 0))⟩]) (.seq (.ops false [
⟨some 7, none, false, .mov (.tmp 0)⟩,
⟨some 8, none, false, .cnv .u64 (.tmp 7)⟩,
⟨some 9, none, false, .mov (.tmp 1)⟩,
⟨some 10, none, false, .cnv .u64 (.tmp 9)⟩,
⟨some 11, none, false, .bin .mul (.tmp 8) (.tmp 10)⟩,
⟨some 6, none, false, .mov (.tmp 11)⟩]) (.seq (.ops false [
⟨some 12, none, false, .mov (.tmp 6)⟩,
⟨some 13, none, false, .bin .shr (.tmp 12) (.const (.int .u64 32))⟩,
⟨some 14, none, false, .cnv .u32 (.tmp 13)⟩,
⟨some 15, none, false, .mov (.tmp 6)⟩,
⟨some 16, none, false, .cnv .u32 (.tmp 15)⟩,
⟨some 4, none, false, .mov (.tmp 14)⟩,
⟨some 5, none, false, .mov (.tmp 16)⟩]) .ret))) }
theorem pr56 : promFn 0 ⟨17, [], []⟩ ic56 = some ip56 := by kernel_rfl
/-- math/bits.Mul64, with registers -/
def ip57 : IFn := { ntmps := 51, results := [.tmp 4, .tmp 5], code := (.seq (.ops false [
⟨some 4, none, false, .mov (.const (.int .u64 0))⟩,
⟨some 5, none, false, .mov (.const (.int .u64 0))⟩]) (.seq (.ops false [
⟨some 14, none, false, .mov (.tmp 0)⟩,
⟨some 15, none, false, .bin .and (.tmp 14) (.const (.int .u64 4294967295))⟩,
⟨some 6, none, false, .mov (.tmp 15)⟩]) (.seq (.ops false [
⟨some 16, none, false, .mov (.tmp 0)⟩,
⟨some 17, none, false, .bin .shr (.tmp 16) (.const (.int .u64 32))⟩,
⟨some 7, none, false, .mov (.tmp 17)⟩]) (.seq (.ops false [
⟨some 18, none, false, .mov (.tmp 1)⟩,
⟨some 19, none, false, .bin .and (.tmp 18) (.const (.int .u64 4294967295))⟩,
⟨some 8, none, false, .mov (.tmp 19)⟩]) (.seq (.ops false [
⟨some 20, none, false, .mov (.tmp 1)⟩,
⟨some 21, none, false, .bin .shr (.tmp 20) (.const (.int .u64 32))⟩,
⟨some 9, none, false, .mov (.tmp 21)⟩]) (.seq (.ops false [
⟨some 22, none, false, .mov (.tmp 6)⟩,
⟨some 23, none, false, .mov (.tmp 8)⟩,
⟨some 24, none, false, .bin .mul (.tmp 22) (.tmp 23)⟩,
⟨some 10, none, false, .mov (.tmp 24)⟩]) (.seq (.ops false [
⟨some 25, none, false, .mov (.tmp 7)⟩,
⟨some 26, none, false, .mov (.tmp 8)⟩,
⟨some 27, none, false, .bin .mul (.tmp 25) (.tmp 26)⟩,
⟨some 28, none, false, .mov (.tmp 10)⟩,
⟨some 29, none, false, .bin .shr (.tmp 28) (.const (.int .u64 32))⟩,
⟨some 30, none, false, .bin .add (.tmp 27) (.tmp 29)⟩,
⟨some 11, none, false, .mov (.tmp 30)⟩]) (.seq (.ops false [
⟨some 31, none, false, .mov (.tmp 11)⟩,
⟨some 32, none, false, .bin .and (.tmp 31) (.const (.int .u64 4294967295))⟩,
⟨some 12, none, false, .mov (.tmp 32)⟩]) (.seq (.ops false [
⟨some 33, none, false, .mov (.tmp 11)⟩,
⟨some 34, none, false, .bin .shr (.tmp 33) (.const (.int .u64 32))⟩,
⟨some 13, none, false, .mov (.tmp 34)⟩]) (.seq (.ops false [
⟨some 35, none, false, .mov (.tmp 12)⟩,
⟨some 36, none, false, .mov (.tmp 6)⟩,
⟨some 37, none, false, .mov (.tmp 9)⟩,
⟨some 38, none, false, .bin .mul (.tmp 36) (.tmp 37)⟩,
⟨some 39, none, false, .bin .add (.tmp 35) (.tmp 38)⟩,
⟨some 12, none, false, .mov (.tmp 39)⟩]) (.seq (.ops false [
⟨some 40, none, false, .mov (.tmp 7)⟩,
⟨some 41, none, false, .mov (.tmp 9)⟩,
⟨some 42, none, false, .bin .mul (.tmp 40) (.tmp 41)⟩,
⟨some 43, none, false, .mov (.tmp 13)⟩,
⟨some 44, none, false, .bin .add (.tmp 42) (.tmp 43)⟩,
⟨some 45, none, false, .mov (.tmp 12)⟩,
⟨some 46, none, false, .bin .shr (.tmp 45) (.const (.int .u64 32))⟩,
⟨some 47, none, false, .bin .add (.tmp 44) (.tmp 46)⟩,
⟨some 4, none, false, .mov (.tmp 47)⟩]) (.seq (.ops false [
⟨some 48, none, false, .mov (.tmp 0)⟩,
⟨some 49, none, false, .mov (.tmp 1)⟩,
⟨some 50, none, false, .bin .mul (.tmp 48) (.tmp 49)⟩,
⟨some 5, none, false, .mov (.tmp 50)⟩]) .ret)))))))))))) }
theorem pr57 : promFn 0 ⟨51, [], []⟩ ic57 = some ip57 := by kernel_rfl
/-- slices.IndexFunc[[]int,int], with registers -/
def ip58 : IFn := { ntmps := 19, results := [.tmp 4], code := (.seq (.ops false [
⟨some 4, none, false, .mov (.const (.int .i64 0))⟩]) (.seq (.seq (.ops false [
⟨some 6, none, false, .mov (.tmp 0)⟩,
⟨some 7, none, false, .len .sl (.tmp 6)⟩,
⟨some 8, none, false, .mov (.const (.int .i64 0))⟩]) (.block 0 (.loop (.seq (.ops false [
⟨some 9, none, false, .bin .lss (.tmp 8) (.tmp 7)⟩]) (.seq (.cond (.tmp 9) .skip (.exit 0)) (.seq (.block 1 (.seq (.ops false [
⟨some 10, none, false, .mov (.tmp 8)⟩,
⟨some 5, none, false, .mov (.tmp 10)⟩]) (.seq (.ops false [
⟨some 11, none, false, .mov (.tmp 1)⟩,
⟨some 12, none, false, .mov (.tmp 0)⟩,
⟨some 13, none, false, .mov (.tmp 5)⟩,
⟨some 14, none, false, .ixs 1 (.tmp 12) (.tmp 13)⟩,
⟨some 15, none, false, .ld1 (.tmp 14)⟩,
⟨some 16, none, false, .call (.tmp 11) [.tmp 15]⟩]) (.cond (.tmp 16) (.seq (.ops false [
⟨some 17, none, false, .mov (.tmp 5)⟩,
⟨some 4, none, false, .mov (.tmp 17)⟩]) .ret) .skip)))) (.ops false [
⟨some 18, none, false, .bin .add (.tmp 8) (.const (.int .i64 1))⟩,
⟨some 8, none, false, .mov (.tmp 18)⟩]))))))) (.seq (.ops false [
⟨some 4, none, false, .mov (.const (.int .i64 (-1)))⟩]) .ret))) }
theorem pr58 : promFn 0 ⟨19, [], []⟩ ic58 = some ip58 := by kernel_rfl
def tab : FuncId → Option IFn
  | 3 => some ip3
  | 4 => some ip4
  | 5 => some ip5
  | 6 => some ip6
  | 7 => some ip7
  | 8 => some ip8
  | 9 => some ip9
  | 10 => some ip10
  | 11 => some ip11
  | 12 => some ip12
  | 14 => some ip14
  | 15 => some ip15
  | 16 => some ip16
  | 17 => some ip17
  | 18 => some ip18
  | 19 => some ip19
  | 20 => some ip20
  | 21 => some ip21
  | 22 => some ip22
  | 23 => some ip23
  | 24 => some ip24
  | 25 => some ip25
  | 26 => some ip26
  | 27 => some ip27
  | 28 => some ip28
  | 29 => some ip29
  | 30 => some ip30
  | 31 => some ip31
  | 32 => some ip32
  | 33 => some ip33
  | 34 => some ip34
  | 35 => some ip35
  | 36 => some ip36
  | 37 => some ip37
  | 38 => some ip38
  | 39 => some ip39
  | 40 => some ip40
  | 41 => some ip41
  | 42 => some ip42
  | 43 => some ip43
  | 44 => some ip44
  | 45 => some ip45
  | 46 => some ip46
  | 47 => some ip47
  | 48 => some ip48
  | 49 => some ip49
  | 50 => some ip50
  | 51 => some ip51
  | 52 => some ip52
  | 53 => some ip53
  | 54 => some ip54
  | 55 => some ip55
  | 56 => some ip56
  | 57 => some ip57
  | 58 => some ip58
  | _ => none
theorem promOk : PromTab 0 tab itab := by
  intro F
  cases h : tab F with
  | some fn =>
    unfold tab at h
    split at h
    · cases h; exact ⟨ic3, _, rfl, pr3⟩
    · cases h; exact ⟨ic4, _, rfl, pr4⟩
    · cases h; exact ⟨ic5, _, rfl, pr5⟩
    · cases h; exact ⟨ic6, _, rfl, pr6⟩
    · cases h; exact ⟨ic7, _, rfl, pr7⟩
    · cases h; exact ⟨ic8, _, rfl, pr8⟩
    · cases h; exact ⟨ic9, _, rfl, pr9⟩
    · cases h; exact ⟨ic10, _, rfl, pr10⟩
    · cases h; exact ⟨ic11, _, rfl, pr11⟩
    · cases h; exact ⟨ic12, _, rfl, pr12⟩
    · cases h; exact ⟨ic14, _, rfl, pr14⟩
    · cases h; exact ⟨ic15, _, rfl, pr15⟩
    · cases h; exact ⟨ic16, _, rfl, pr16⟩
    · cases h; exact ⟨ic17, _, rfl, pr17⟩
    · cases h; exact ⟨ic18, _, rfl, pr18⟩
    · cases h; exact ⟨ic19, _, rfl, pr19⟩
    · cases h; exact ⟨ic20, _, rfl, pr20⟩
    · cases h; exact ⟨ic21, _, rfl, pr21⟩
    · cases h; exact ⟨ic22, _, rfl, pr22⟩
    · cases h; exact ⟨ic23, _, rfl, pr23⟩
    · cases h; exact ⟨ic24, _, rfl, pr24⟩
    · cases h; exact ⟨ic25, _, rfl, pr25⟩
    · cases h; exact ⟨ic26, _, rfl, pr26⟩
    · cases h; exact ⟨ic27, _, rfl, pr27⟩
    · cases h; exact ⟨ic28, _, rfl, pr28⟩
    · cases h; exact ⟨ic29, _, rfl, pr29⟩
    · cases h; exact ⟨ic30, _, rfl, pr30⟩
    · cases h; exact ⟨ic31, _, rfl, pr31⟩
    · cases h; exact ⟨ic32, _, rfl, pr32⟩
    · cases h; exact ⟨ic33, _, rfl, pr33⟩
    · cases h; exact ⟨ic34, _, rfl, pr34⟩
    · cases h; exact ⟨ic35, _, rfl, pr35⟩
    · cases h; exact ⟨ic36, _, rfl, pr36⟩
    · cases h; exact ⟨ic37, _, rfl, pr37⟩
    · cases h; exact ⟨ic38, _, rfl, pr38⟩
    · cases h; exact ⟨ic39, _, rfl, pr39⟩
    · cases h; exact ⟨ic40, _, rfl, pr40⟩
    · cases h; exact ⟨ic41, _, rfl, pr41⟩
    · cases h; exact ⟨ic42, _, rfl, pr42⟩
    · cases h; exact ⟨ic43, _, rfl, pr43⟩
    · cases h; exact ⟨ic44, _, rfl, pr44⟩
    · cases h; exact ⟨ic45, _, rfl, pr45⟩
    · cases h; exact ⟨ic46, _, rfl, pr46⟩
    · cases h; exact ⟨ic47, _, rfl, pr47⟩
    · cases h; exact ⟨ic48, _, rfl, pr48⟩
    · cases h; exact ⟨ic49, _, rfl, pr49⟩
    · cases h; exact ⟨ic50, _, rfl, pr50⟩
    · cases h; exact ⟨ic51, _, rfl, pr51⟩
    · cases h; exact ⟨ic52, _, rfl, pr52⟩
    · cases h; exact ⟨ic53, _, rfl, pr53⟩
    · cases h; exact ⟨ic54, _, rfl, pr54⟩
    · cases h; exact ⟨ic55, _, rfl, pr55⟩
    · cases h; exact ⟨ic56, _, rfl, pr56⟩
    · cases h; exact ⟨ic57, _, rfl, pr57⟩
    · cases h; exact ⟨ic58, _, rfl, pr58⟩
    · cases h
  | none =>
    show itab F = none
    cases hi : itab F with
    | none => rfl
    | some fn =>
      unfold itab at hi
      split at hi <;> first | (cases hi; done) | (cases h; done)
end Go.Proofs.Ythlhcdldighffaa.Tab
