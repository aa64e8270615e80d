/- The same functions with their variables in registers; and the proof that the check takes them. -/
import Derived.Test.YtpffdendgnkpoaaTab0
import Derived.KernelRfl
namespace Go.Proofs.Ytpffdendgnkpoaa.Tab
open Go Go.IM
set_option maxRecDepth 100000
/-- bandplan/bandplanlaw34.DemandValid, with registers -/
def ip3 : IFn := { ntmps := 20, results := [.tmp 4], code := (.seq (.ops false [
⟨some 4, none, false, .mov (.const (.bool false))⟩]) (.seq (.seq (.ops false [
⟨some 5, none, false, .mov (.tmp 0)⟩,
⟨some 6, none, false, .mov (.tmp 1)⟩,
⟨some 7, none, false, .call (.func 9) [.tmp 5, .tmp 6, .const (Value.slice none 0 0)]⟩,
⟨some 8, none, false, .una .not (.tmp 7)⟩]) (.cond (.tmp 8) (.seq (.ops false [
⟨some 9, none, false, .call (.func 10) []⟩,
⟨some 4, none, false, .mov (.tmp 9)⟩]) .ret) .skip)) (.seq (.ops false [
⟨some 10, none, false, .mov (.tmp 0)⟩,
⟨some 11, none, false, .mov (.tmp 1)⟩,
⟨some 12, none, false, .call (.func 11) [.tmp 10, .tmp 11]⟩,
⟨some 13, none, false, .mov (.tmp 0)⟩,
⟨some 14, none, false, .mov (.tmp 1)⟩,
⟨some 15, none, false, .call (.func 12) [.tmp 13, .tmp 14]⟩,
⟨some 16, none, false, .eq .bool false (.tmp 12) (.tmp 15)⟩,
⟨some 17, none, false, .mov (.tmp 16)⟩,
⟨some 18, some (17, true), false, .call (.func 10) []⟩,
⟨some 19, none, false, .pick (.tmp 17) (.tmp 18) (.const (.bool false))⟩,
⟨some 4, none, false, .mov (.tmp 19)⟩]) .ret))) }
theorem pr3 : promFn 0 ⟨20, [], []⟩ ic3 = some ip3 := by kernel_rfl
/-- bandplan/bandplanlaw34.DemandUnits, with registers -/
def ip4 : IFn := { ntmps := 68, results := [.tmp 6], code := (.seq (.ops false [
⟨some 6, none, false, .mov (.const (.bool false))⟩]) (.seq (.seq (.ops false [
⟨some 15, none, false, .mov (.tmp 0)⟩,
⟨some 16, none, false, .mov (.tmp 1)⟩,
⟨some 17, none, false, .mov (.tmp 2)⟩,
⟨some 18, none, false, .call (.func 9) [.tmp 15, .tmp 16, .tmp 17]⟩,
⟨some 19, none, false, .una .not (.tmp 18)⟩]) (.cond (.tmp 19) (.seq (.ops false [
⟨some 20, none, false, .call (.func 10) []⟩,
⟨some 6, none, false, .mov (.tmp 20)⟩]) .ret) .skip)) (.seq (.ops false [
⟨some 22, none, false, .mov (.tmp 0)⟩,
⟨some 23, none, false, .mov (.tmp 2)⟩,
⟨some 24, none, false, .call (.func 13) [.tmp 22, .tmp 23]⟩,
⟨some 21, none, false, .mov (.tmp 24)⟩,
⟨some 25, none, false, .ext (.tmp 21) 0⟩,
⟨some 26, none, false, .ext (.tmp 21) 1⟩,
⟨some 7, none, false, .mov (.tmp 25)⟩,
⟨some 8, none, false, .mov (.tmp 26)⟩]) (.seq (.ops false [
⟨some 28, none, false, .mov (.tmp 0)⟩,
⟨some 29, none, false, .mov (.tmp 2)⟩,
⟨some 30, none, false, .call (.func 14) [.tmp 28, .tmp 29]⟩,
⟨some 27, none, false, .mov (.tmp 30)⟩,
⟨some 31, none, false, .ext (.tmp 27) 0⟩,
⟨some 32, none, false, .ext (.tmp 27) 1⟩,
⟨some 9, none, false, .mov (.tmp 31)⟩,
⟨some 10, none, false, .mov (.tmp 32)⟩]) (.seq (.ops false [
⟨some 34, none, false, .mov (.tmp 0)⟩,
⟨some 35, none, false, .mov (.tmp 1)⟩,
⟨some 36, none, false, .mov (.tmp 2)⟩,
⟨some 37, none, false, .call (.func 15) [.tmp 34, .tmp 35, .tmp 36]⟩,
⟨some 33, none, false, .mov (.tmp 37)⟩,
⟨some 38, none, false, .ext (.tmp 33) 0⟩,
⟨some 39, none, false, .ext (.tmp 33) 1⟩,
⟨some 11, none, false, .mov (.tmp 38)⟩,
⟨some 12, none, false, .mov (.tmp 39)⟩]) (.seq (.ops false [
⟨some 41, none, false, .mov (.tmp 0)⟩,
⟨some 42, none, false, .mov (.tmp 1)⟩,
⟨some 43, none, false, .mov (.tmp 2)⟩,
⟨some 44, none, false, .call (.func 16) [.tmp 41, .tmp 42, .tmp 43]⟩,
⟨some 40, none, false, .mov (.tmp 44)⟩,
⟨some 45, none, false, .ext (.tmp 40) 0⟩,
⟨some 46, none, false, .ext (.tmp 40) 1⟩,
⟨some 13, none, false, .mov (.tmp 45)⟩,
⟨some 14, none, false, .mov (.tmp 46)⟩]) (.seq (.ops false [
⟨some 47, none, false, .mov (.tmp 7)⟩,
⟨some 48, none, false, .mov (.tmp 9)⟩,
⟨some 49, none, false, .bin .eql (.tmp 47) (.tmp 48)⟩,
⟨some 50, none, false, .mov (.tmp 49)⟩,
⟨some 51, some (50, true), false, .mov (.tmp 8)⟩,
⟨some 52, some (50, true), false, .mov (.tmp 10)⟩,
⟨some 53, some (50, true), false, .bin .eql (.tmp 51) (.tmp 52)⟩,
⟨some 54, none, false, .pick (.tmp 50) (.tmp 53) (.const (.bool false))⟩,
⟨some 55, none, false, .mov (.tmp 54)⟩,
⟨some 56, some (55, true), false, .mov (.tmp 11)⟩,
⟨some 57, some (55, true), false, .mov (.tmp 13)⟩,
⟨some 58, some (55, true), false, .bin .eql (.tmp 56) (.tmp 57)⟩,
⟨some 59, none, false, .pick (.tmp 55) (.tmp 58) (.const (.bool false))⟩,
⟨some 60, none, false, .mov (.tmp 59)⟩,
⟨some 61, some (60, true), false, .mov (.tmp 12)⟩,
⟨some 62, some (60, true), false, .mov (.tmp 14)⟩,
⟨some 63, some (60, true), false, .bin .eql (.tmp 61) (.tmp 62)⟩,
⟨some 64, none, false, .pick (.tmp 60) (.tmp 63) (.const (.bool false))⟩,
⟨some 65, none, false, .mov (.tmp 64)⟩,
⟨some 66, some (65, true), false, .call (.func 10) []⟩,
⟨some 67, none, false, .pick (.tmp 65) (.tmp 66) (.const (.bool false))⟩,
⟨some 6, none, false, .mov (.tmp 67)⟩]) .ret))))))) }
theorem pr4 : promFn 0 ⟨68, [], []⟩ ic4 = some ip4 := by kernel_rfl
/-- bandplan/bandplanlaw34.DemandExcess, with registers -/
def ip5 : IFn := { ntmps := 37, results := [.tmp 4], code := (.seq (.ops false [
⟨some 4, none, false, .mov (.const (.bool false))⟩]) (.seq (.seq (.ops false [
⟨some 9, none, false, .mov (.tmp 0)⟩,
⟨some 10, none, false, .mov (.tmp 1)⟩,
⟨some 11, none, false, .call (.func 9) [.tmp 9, .tmp 10, .const (Value.slice none 0 0)]⟩,
⟨some 12, none, false, .una .not (.tmp 11)⟩]) (.cond (.tmp 12) (.seq (.ops false [
⟨some 13, none, false, .call (.func 10) []⟩,
⟨some 4, none, false, .mov (.tmp 13)⟩]) .ret) .skip)) (.seq (.ops false [
⟨some 15, none, false, .mov (.tmp 0)⟩,
⟨some 16, none, false, .mov (.tmp 1)⟩,
⟨some 17, none, false, .call (.func 17) [.tmp 15, .tmp 16]⟩,
⟨some 14, none, false, .mov (.tmp 17)⟩,
⟨some 18, none, false, .ext (.tmp 14) 0⟩,
⟨some 19, none, false, .ext (.tmp 14) 1⟩,
⟨some 5, none, false, .mov (.tmp 18)⟩,
⟨some 6, none, false, .mov (.tmp 19)⟩]) (.seq (.ops false [
⟨some 21, none, false, .mov (.tmp 0)⟩,
⟨some 22, none, false, .mov (.tmp 1)⟩,
⟨some 23, none, false, .call (.func 18) [.tmp 21, .tmp 22]⟩,
⟨some 20, none, false, .mov (.tmp 23)⟩,
⟨some 24, none, false, .ext (.tmp 20) 0⟩,
⟨some 25, none, false, .ext (.tmp 20) 1⟩,
⟨some 7, none, false, .mov (.tmp 24)⟩,
⟨some 8, none, false, .mov (.tmp 25)⟩]) (.seq (.ops false [
⟨some 26, none, false, .mov (.tmp 5)⟩,
⟨some 27, none, false, .mov (.tmp 7)⟩,
⟨some 28, none, false, .call (.func 19) [.tmp 26, .tmp 27]⟩,
⟨some 29, none, false, .mov (.tmp 28)⟩,
⟨some 30, some (29, true), false, .mov (.tmp 6)⟩,
⟨some 31, some (29, true), false, .mov (.tmp 8)⟩,
⟨some 32, some (29, true), false, .bin .eql (.tmp 30) (.tmp 31)⟩,
⟨some 33, none, false, .pick (.tmp 29) (.tmp 32) (.const (.bool false))⟩,
⟨some 34, none, false, .mov (.tmp 33)⟩,
⟨some 35, some (34, true), false, .call (.func 10) []⟩,
⟨some 36, none, false, .pick (.tmp 34) (.tmp 35) (.const (.bool false))⟩,
⟨some 4, none, false, .mov (.tmp 36)⟩]) .ret))))) }
theorem pr5 : promFn 0 ⟨37, [], []⟩ ic5 = some ip5 := by kernel_rfl
/-- bandplan/bandplanlaw34.DemandChange, with registers -/
def ip6 : IFn := { ntmps := 53, results := [.tmp 8], code := (.seq (.ops false [
⟨some 8, none, false, .mov (.const (.bool false))⟩]) (.seq (.seq (.ops false [
⟨some 14, none, false, .mov (.tmp 0)⟩,
⟨some 15, none, false, .mov (.tmp 1)⟩,
⟨some 16, none, false, .call (.func 9) [.tmp 14, .tmp 15, .const (Value.slice none 0 0)]⟩,
⟨some 17, none, false, .una .not (.tmp 16)⟩]) (.cond (.tmp 17) (.seq (.ops false [
⟨some 18, none, false, .call (.func 10) []⟩,
⟨some 8, none, false, .mov (.tmp 18)⟩]) .ret) .skip)) (.seq (.ops false [
⟨some 19, none, false, .mov (.tmp 1)⟩,
⟨some 20, none, false, .app 1 8 (.const (Value.slice none 0 0)) (.tmp 19)⟩,
⟨some 9, none, false, .mov (.tmp 20)⟩]) (.seq (.ops false [
⟨some 22, none, false, .mov (.tmp 0)⟩,
⟨some 23, none, false, .mov (.tmp 9)⟩,
⟨some 24, none, false, .mov (.tmp 2)⟩,
⟨some 25, none, false, .mov (.tmp 3)⟩,
⟨some 26, none, false, .call (.func 20) [.tmp 22, .tmp 23, .tmp 24, .tmp 25]⟩,
⟨some 21, none, false, .mov (.tmp 26)⟩,
⟨some 27, none, false, .ext (.tmp 21) 0⟩,
⟨some 28, none, false, .ext (.tmp 21) 1⟩,
⟨some 10, none, false, .mov (.tmp 27)⟩,
⟨some 11, none, false, .mov (.tmp 28)⟩]) (.seq (.ops false [
⟨some 30, none, false, .mov (.tmp 0)⟩,
⟨some 31, none, false, .mov (.tmp 1)⟩,
⟨some 32, none, false, .mov (.tmp 2)⟩,
⟨some 33, none, false, .mov (.tmp 3)⟩,
⟨some 34, none, false, .call (.func 21) [.tmp 30, .tmp 31, .tmp 32, .tmp 33]⟩,
⟨some 29, none, false, .mov (.tmp 34)⟩,
⟨some 35, none, false, .ext (.tmp 29) 0⟩,
⟨some 36, none, false, .ext (.tmp 29) 1⟩,
⟨some 12, none, false, .mov (.tmp 35)⟩,
⟨some 13, none, false, .mov (.tmp 36)⟩]) (.seq (.ops false [
⟨some 37, none, false, .mov (.tmp 10)⟩,
⟨some 38, none, false, .mov (.tmp 12)⟩,
⟨some 39, none, false, .call (.func 19) [.tmp 37, .tmp 38]⟩,
⟨some 40, none, false, .mov (.tmp 39)⟩,
⟨some 41, some (40, true), false, .mov (.tmp 11)⟩,
⟨some 42, some (40, true), false, .mov (.tmp 13)⟩,
⟨some 43, some (40, true), false, .bin .eql (.tmp 41) (.tmp 42)⟩,
⟨some 44, none, false, .pick (.tmp 40) (.tmp 43) (.const (.bool false))⟩,
⟨some 45, none, false, .mov (.tmp 44)⟩,
⟨some 46, some (45, true), false, .mov (.tmp 9)⟩,
⟨some 47, some (45, true), false, .mov (.tmp 1)⟩,
⟨some 48, some (45, true), false, .call (.func 19) [.tmp 46, .tmp 47]⟩,
⟨some 49, none, false, .pick (.tmp 45) (.tmp 48) (.const (.bool false))⟩,
⟨some 50, none, false, .mov (.tmp 49)⟩,
⟨some 51, some (50, true), false, .call (.func 10) []⟩,
⟨some 52, none, false, .pick (.tmp 50) (.tmp 51) (.const (.bool false))⟩,
⟨some 8, none, false, .mov (.tmp 52)⟩]) .ret)))))) }
theorem pr6 : promFn 0 ⟨53, [], []⟩ ic6 = some ip6 := by kernel_rfl
/-- bandplan/bandplanlaw34.DemandCarry, with registers -/
def ip7 : IFn := { ntmps := 46, results := [.tmp 6], code := (.seq (.ops false [
⟨some 6, none, false, .mov (.const (.bool false))⟩]) (.seq (.seq (.ops false [
⟨some 11, none, false, .mov (.tmp 0)⟩,
⟨some 12, none, false, .mov (.tmp 2)⟩,
⟨some 13, none, false, .call (.func 9) [.tmp 11, .tmp 12, .const (Value.slice none 0 0)]⟩,
⟨some 14, none, false, .una .not (.tmp 13)⟩,
⟨some 15, none, false, .mov (.tmp 14)⟩,
⟨some 16, some (15, false), false, .mov (.tmp 1)⟩,
⟨some 17, some (15, false), false, .len .sl (.tmp 16)⟩,
⟨some 18, some (15, false), false, .bin .gtr (.tmp 17) (.const (.int .i64 140))⟩,
⟨some 19, none, false, .pick (.tmp 15) (.const (.bool true)) (.tmp 18)⟩]) (.cond (.tmp 19) (.seq (.ops false [
⟨some 20, none, false, .call (.func 10) []⟩,
⟨some 6, none, false, .mov (.tmp 20)⟩]) .ret) .skip)) (.seq (.ops false [
⟨some 22, none, false, .mov (.tmp 0)⟩,
⟨some 23, none, false, .mov (.tmp 1)⟩,
⟨some 24, none, false, .mov (.tmp 2)⟩,
⟨some 25, none, false, .call (.func 22) [.tmp 22, .tmp 23, .tmp 24]⟩,
⟨some 21, none, false, .mov (.tmp 25)⟩,
⟨some 26, none, false, .ext (.tmp 21) 0⟩,
⟨some 27, none, false, .ext (.tmp 21) 1⟩,
⟨some 7, none, false, .mov (.tmp 26)⟩,
⟨some 8, none, false, .mov (.tmp 27)⟩]) (.seq (.ops false [
⟨some 29, none, false, .mov (.tmp 0)⟩,
⟨some 30, none, false, .mov (.tmp 1)⟩,
⟨some 31, none, false, .mov (.tmp 2)⟩,
⟨some 32, none, false, .call (.func 23) [.tmp 29, .tmp 30, .tmp 31]⟩,
⟨some 28, none, false, .mov (.tmp 32)⟩,
⟨some 33, none, false, .ext (.tmp 28) 0⟩,
⟨some 34, none, false, .ext (.tmp 28) 1⟩,
⟨some 9, none, false, .mov (.tmp 33)⟩,
⟨some 10, none, false, .mov (.tmp 34)⟩]) (.seq (.ops false [
⟨some 35, none, false, .mov (.tmp 7)⟩,
⟨some 36, none, false, .mov (.tmp 9)⟩,
⟨some 37, none, false, .call (.func 19) [.tmp 35, .tmp 36]⟩,
⟨some 38, none, false, .mov (.tmp 37)⟩,
⟨some 39, some (38, true), false, .mov (.tmp 8)⟩,
⟨some 40, some (38, true), false, .mov (.tmp 10)⟩,
⟨some 41, some (38, true), false, .bin .eql (.tmp 39) (.tmp 40)⟩,
⟨some 42, none, false, .pick (.tmp 38) (.tmp 41) (.const (.bool false))⟩,
⟨some 43, none, false, .mov (.tmp 42)⟩,
⟨some 44, some (43, true), false, .call (.func 10) []⟩,
⟨some 45, none, false, .pick (.tmp 43) (.tmp 44) (.const (.bool false))⟩,
⟨some 6, none, false, .mov (.tmp 45)⟩]) .ret))))) }
theorem pr7 : promFn 0 ⟨46, [], []⟩ ic7 = some ip7 := by kernel_rfl
/-- bandplan/bandplanlaw34.DemandHolds, with registers -/
def ip8 : IFn := { ntmps := 181, results := [.tmp 10], code := (.seq (.ops false [
⟨some 10, none, false, .mov (.const (.bool false))⟩]) (.seq (.seq (.ops false [
⟨some 25, none, false, .mov (.tmp 0)⟩,
⟨some 26, none, false, .len .sl (.tmp 25)⟩,
⟨some 27, none, false, .bin .gtr (.tmp 26) (.const (.int .i64 40))⟩,
⟨some 28, none, false, .mov (.tmp 27)⟩,
⟨some 29, some (28, false), false, .mov (.tmp 1)⟩,
⟨some 30, some (28, false), false, .len .sl (.tmp 29)⟩,
⟨some 31, some (28, false), false, .bin .gtr (.tmp 30) (.const (.int .i64 40))⟩,
⟨some 32, none, false, .pick (.tmp 28) (.const (.bool true)) (.tmp 31)⟩,
⟨some 33, none, false, .mov (.tmp 32)⟩,
⟨some 34, some (33, false), false, .mov (.tmp 0)⟩,
⟨some 35, some (33, false), false, .mov (.tmp 2)⟩,
⟨some 36, some (33, false), false, .call (.func 11) [.tmp 34, .tmp 35]⟩,
⟨some 37, some (33, false), false, .una .not (.tmp 36)⟩,
⟨some 38, none, false, .pick (.tmp 33) (.const (.bool true)) (.tmp 37)⟩]) (.cond (.tmp 38) (.seq (.ops false [
⟨some 39, none, false, .call (.func 10) []⟩,
⟨some 10, none, false, .mov (.tmp 39)⟩]) .ret) .skip)) (.seq (.ops false [
⟨some 41, none, false, .mov (.tmp 0)⟩,
⟨some 42, none, false, .mov (.tmp 2)⟩,
⟨some 43, none, false, .call (.func 13) [.tmp 41, .tmp 42]⟩,
⟨some 40, none, false, .mov (.tmp 43)⟩,
⟨some 44, none, false, .ext (.tmp 40) 0⟩,
⟨some 45, none, false, .ext (.tmp 40) 1⟩,
⟨some 11, none, false, .mov (.tmp 44)⟩,
⟨some 12, none, false, .mov (.tmp 45)⟩]) (.seq (.ops false [
⟨some 47, none, false, .mov (.tmp 0)⟩,
⟨some 48, none, false, .mov (.tmp 0)⟩,
⟨some 49, none, false, .mov (.tmp 2)⟩,
⟨some 50, none, false, .call (.func 22) [.tmp 47, .tmp 48, .tmp 49]⟩,
⟨some 46, none, false, .mov (.tmp 50)⟩,
⟨some 51, none, false, .ext (.tmp 46) 0⟩,
⟨some 52, none, false, .ext (.tmp 46) 1⟩,
⟨some 13, none, false, .mov (.tmp 51)⟩,
⟨some 14, none, false, .mov (.tmp 52)⟩]) (.seq (.seq (.ops false [
⟨some 53, none, false, .mov (.tmp 2)⟩,
⟨some 54, none, false, .len .sl (.tmp 53)⟩,
⟨some 55, none, false, .mov (.tmp 0)⟩,
⟨some 56, none, false, .len .sl (.tmp 55)⟩,
⟨some 57, none, false, .bin .neq (.tmp 54) (.tmp 56)⟩,
⟨some 58, none, false, .mov (.tmp 57)⟩,
⟨some 59, some (58, false), false, .mov (.tmp 12)⟩,
⟨some 60, some (58, false), false, .bin .neq (.tmp 59) (.const (.int .i64 0))⟩,
⟨some 61, none, false, .pick (.tmp 58) (.const (.bool true)) (.tmp 60)⟩,
⟨some 62, none, false, .mov (.tmp 61)⟩,
⟨some 63, some (62, false), false, .mov (.tmp 14)⟩,
⟨some 64, some (62, false), false, .bin .neq (.tmp 63) (.const (.int .i64 0))⟩,
⟨some 65, none, false, .pick (.tmp 62) (.const (.bool true)) (.tmp 64)⟩,
⟨some 66, none, false, .mov (.tmp 65)⟩,
⟨some 67, some (66, false), false, .mov (.tmp 13)⟩,
⟨some 68, some (66, false), false, .mov (.tmp 2)⟩,
⟨some 69, some (66, false), false, .call (.func 19) [.tmp 67, .tmp 68]⟩,
⟨some 70, some (66, false), false, .una .not (.tmp 69)⟩,
⟨some 71, none, false, .pick (.tmp 66) (.const (.bool true)) (.tmp 70)⟩]) (.cond (.tmp 71) (.seq (.ops false [
⟨some 10, none, false, .mov (.const (.bool false))⟩]) .ret) .skip)) (.seq (.ops false [
⟨some 73, none, false, .mov (.tmp 0)⟩,
⟨some 74, none, false, .mov (.tmp 1)⟩,
⟨some 75, none, false, .mov (.tmp 2)⟩,
⟨some 76, none, false, .call (.func 22) [.tmp 73, .tmp 74, .tmp 75]⟩,
⟨some 72, none, false, .mov (.tmp 76)⟩,
⟨some 77, none, false, .ext (.tmp 72) 0⟩,
⟨some 78, none, false, .ext (.tmp 72) 1⟩,
⟨some 15, none, false, .mov (.tmp 77)⟩,
⟨some 16, none, false, .mov (.tmp 78)⟩]) (.seq (.seq (.ops false [
⟨some 79, none, false, .mov (.tmp 16)⟩,
⟨some 80, none, false, .bin .eql (.tmp 79) (.const (.int .i64 0))⟩]) (.cond (.tmp 80) (.seq (.ops false [
⟨some 82, none, false, .mov (.tmp 1)⟩,
⟨some 83, none, false, .mov (.tmp 15)⟩,
⟨some 84, none, false, .call (.func 13) [.tmp 82, .tmp 83]⟩,
⟨some 81, none, false, .mov (.tmp 84)⟩,
⟨some 85, none, false, .ext (.tmp 81) 0⟩,
⟨some 86, none, false, .ext (.tmp 81) 1⟩,
⟨some 17, none, false, .mov (.tmp 85)⟩,
⟨some 18, none, false, .mov (.tmp 86)⟩]) (.seq (.ops false [
⟨some 87, none, false, .mov (.tmp 1)⟩,
⟨some 88, none, false, .mov (.tmp 15)⟩,
⟨some 89, none, false, .call (.func 11) [.tmp 87, .tmp 88]⟩,
⟨some 90, none, false, .una .not (.tmp 89)⟩,
⟨some 91, none, false, .mov (.tmp 90)⟩,
⟨some 92, some (91, false), false, .mov (.tmp 18)⟩,
⟨some 93, some (91, false), false, .bin .neq (.tmp 92) (.const (.int .i64 0))⟩,
⟨some 94, none, false, .pick (.tmp 91) (.const (.bool true)) (.tmp 93)⟩,
⟨some 95, none, false, .mov (.tmp 94)⟩,
⟨some 96, some (95, false), false, .mov (.tmp 0)⟩,
⟨some 97, some (95, false), false, .mov (.tmp 1)⟩,
⟨some 98, some (95, false), false, .call (.func 24) [.tmp 96, .tmp 97]⟩,
⟨some 99, some (95, false), false, .mov (.tmp 98)⟩,
⟨some 100, some (99, true), false, .mov (.tmp 17)⟩,
⟨some 101, some (99, true), false, .mov (.tmp 11)⟩,
⟨some 102, some (99, true), false, .bin .gtr (.tmp 100) (.tmp 101)⟩,
⟨some 103, some (95, false), false, .pick (.tmp 99) (.tmp 102) (.const (.bool false))⟩,
⟨some 104, none, false, .pick (.tmp 95) (.const (.bool true)) (.tmp 103)⟩]) (.cond (.tmp 104) (.seq (.ops false [
⟨some 10, none, false, .mov (.const (.bool false))⟩]) .ret) .skip))) .skip)) (.seq (.seq (.ops false [
⟨some 105, none, false, .mov (.tmp 3)⟩,
⟨some 106, none, false, .bin .lss (.tmp 105) (.const (.int .i64 0))⟩,
⟨some 107, none, false, .mov (.tmp 106)⟩,
⟨some 108, some (107, false), false, .mov (.tmp 3)⟩,
⟨some 109, some (107, false), false, .mov (.tmp 0)⟩,
⟨some 110, some (107, false), false, .len .sl (.tmp 109)⟩,
⟨some 111, some (107, false), false, .bin .geq (.tmp 108) (.tmp 110)⟩,
⟨some 112, none, false, .pick (.tmp 107) (.const (.bool true)) (.tmp 111)⟩]) (.cond (.tmp 112) (.seq (.ops false [
⟨some 113, none, false, .call (.func 10) []⟩,
⟨some 10, none, false, .mov (.tmp 113)⟩]) .ret) .skip)) (.seq (.ops false [
⟨some 115, none, false, .mov (.tmp 0)⟩,
⟨some 116, none, false, .mov (.tmp 2)⟩,
⟨some 117, none, false, .mov (.tmp 3)⟩,
⟨some 118, none, false, .mov (.tmp 4)⟩,
⟨some 119, none, false, .call (.func 20) [.tmp 115, .tmp 116, .tmp 117, .tmp 118]⟩,
⟨some 114, none, false, .mov (.tmp 119)⟩,
⟨some 120, none, false, .ext (.tmp 114) 0⟩,
⟨some 121, none, false, .ext (.tmp 114) 1⟩,
⟨some 19, none, false, .mov (.tmp 120)⟩,
⟨some 20, none, false, .mov (.tmp 121)⟩]) (.seq (.seq (.ops false [
⟨some 122, none, false, .mov (.tmp 20)⟩,
⟨some 123, none, false, .bin .neq (.tmp 122) (.const (.int .i64 0))⟩]) (.cond (.tmp 123) (.seq (.ops false [
⟨some 124, none, false, .mov (.tmp 20)⟩,
⟨some 125, none, false, .bin .eql (.tmp 124) (.const (.int .i64 3))⟩,
⟨some 126, none, false, .mov (.tmp 125)⟩,
⟨some 127, some (126, true), false, .mov (.tmp 19)⟩,
⟨some 128, some (126, true), false, .len .sl (.tmp 127)⟩,
⟨some 129, some (126, true), false, .bin .eql (.tmp 128) (.const (.int .i64 0))⟩,
⟨some 130, none, false, .pick (.tmp 126) (.tmp 129) (.const (.bool false))⟩,
⟨some 131, none, false, .mov (.tmp 130)⟩,
⟨some 132, some (131, true), false, .call (.func 10) []⟩,
⟨some 133, none, false, .pick (.tmp 131) (.tmp 132) (.const (.bool false))⟩,
⟨some 10, none, false, .mov (.tmp 133)⟩]) .ret) .skip)) (.seq (.ops false [
⟨some 135, none, false, .mov (.tmp 0)⟩,
⟨some 136, none, false, .mov (.tmp 19)⟩,
⟨some 137, none, false, .call (.func 13) [.tmp 135, .tmp 136]⟩,
⟨some 134, none, false, .mov (.tmp 137)⟩,
⟨some 138, none, false, .ext (.tmp 134) 0⟩,
⟨some 139, none, false, .ext (.tmp 134) 1⟩,
⟨some 21, none, false, .mov (.tmp 138)⟩,
⟨some 22, none, false, .mov (.tmp 139)⟩]) (.seq (.ops false [
⟨some 141, none, false, .mov (.tmp 0)⟩,
⟨some 142, none, false, .mov (.tmp 19)⟩,
⟨some 143, none, false, .mov (.tmp 3)⟩,
⟨some 144, none, false, .mov (.tmp 4)⟩,
⟨some 145, none, false, .una .neg (.tmp 144)⟩,
⟨some 146, none, false, .call (.func 20) [.tmp 141, .tmp 142, .tmp 143, .tmp 145]⟩,
⟨some 140, none, false, .mov (.tmp 146)⟩,
⟨some 147, none, false, .ext (.tmp 140) 0⟩,
⟨some 148, none, false, .ext (.tmp 140) 1⟩,
⟨some 23, none, false, .mov (.tmp 147)⟩,
⟨some 24, none, false, .mov (.tmp 148)⟩]) (.seq (.ops false [
⟨some 149, none, false, .mov (.tmp 0)⟩,
⟨some 150, none, false, .mov (.tmp 19)⟩,
⟨some 151, none, false, .call (.func 11) [.tmp 149, .tmp 150]⟩,
⟨some 152, none, false, .mov (.tmp 151)⟩,
⟨some 153, some (152, true), false, .mov (.tmp 22)⟩,
⟨some 154, some (152, true), false, .bin .eql (.tmp 153) (.const (.int .i64 0))⟩,
⟨some 155, none, false, .pick (.tmp 152) (.tmp 154) (.const (.bool false))⟩,
⟨some 156, none, false, .mov (.tmp 155)⟩,
⟨some 157, some (156, true), false, .mov (.tmp 24)⟩,
⟨some 158, some (156, true), false, .bin .eql (.tmp 157) (.const (.int .i64 0))⟩,
⟨some 159, none, false, .pick (.tmp 156) (.tmp 158) (.const (.bool false))⟩,
⟨some 160, none, false, .mov (.tmp 159)⟩,
⟨some 161, some (160, true), false, .mov (.tmp 21)⟩,
⟨some 162, some (160, true), false, .mov (.tmp 11)⟩,
⟨some 163, some (160, true), false, .mov (.tmp 4)⟩,
⟨some 164, some (160, true), false, .mov (.tmp 0)⟩,
⟨some 165, some (160, true), false, .mov (.tmp 3)⟩,
⟨some 166, some (160, true), false, .ixs 5 (.tmp 164) (.tmp 165)⟩,
⟨some 167, some (160, true), false, .fad 3 (.tmp 166)⟩,
⟨some 168, some (160, true), false, .ld1 (.tmp 167)⟩,
⟨some 169, some (160, true), false, .bin .mul (.tmp 163) (.tmp 168)⟩,
⟨some 170, some (160, true), false, .bin .add (.tmp 162) (.tmp 169)⟩,
⟨some 171, some (160, true), false, .bin .eql (.tmp 161) (.tmp 170)⟩,
⟨some 172, none, false, .pick (.tmp 160) (.tmp 171) (.const (.bool false))⟩,
⟨some 173, none, false, .mov (.tmp 172)⟩,
⟨some 174, some (173, true), false, .mov (.tmp 23)⟩,
⟨some 175, some (173, true), false, .mov (.tmp 2)⟩,
⟨some 176, some (173, true), false, .call (.func 19) [.tmp 174, .tmp 175]⟩,
⟨some 177, none, false, .pick (.tmp 173) (.tmp 176) (.const (.bool false))⟩,
⟨some 178, none, false, .mov (.tmp 177)⟩,
⟨some 179, some (178, true), false, .call (.func 10) []⟩,
⟨some 180, none, false, .pick (.tmp 178) (.tmp 179) (.const (.bool false))⟩,
⟨some 10, none, false, .mov (.tmp 180)⟩]) .ret))))))))))))) }
theorem pr8 : promFn 0 ⟨181, [], []⟩ ic8 = some ip8 := by kernel_rfl
/-- bandplan/bandplanlaw34.few, with registers -/
def ip9 : IFn := { ntmps := 20, results := [.tmp 6], code := (.seq (.ops false [
⟨some 6, none, false, .mov (.const (.bool false))⟩]) (.seq (.ops false [
⟨some 7, none, false, .mov (.tmp 0)⟩,
⟨some 8, none, false, .len .sl (.tmp 7)⟩,
⟨some 9, none, false, .bin .leq (.tmp 8) (.const (.int .i64 140))⟩,
⟨some 10, none, false, .mov (.tmp 9)⟩,
⟨some 11, some (10, true), false, .mov (.tmp 1)⟩,
⟨some 12, some (10, true), false, .len .sl (.tmp 11)⟩,
⟨some 13, some (10, true), false, .bin .leq (.tmp 12) (.const (.int .i64 140))⟩,
⟨some 14, none, false, .pick (.tmp 10) (.tmp 13) (.const (.bool false))⟩,
⟨some 15, none, false, .mov (.tmp 14)⟩,
⟨some 16, some (15, true), false, .mov (.tmp 2)⟩,
⟨some 17, some (15, true), false, .len .sl (.tmp 16)⟩,
⟨some 18, some (15, true), false, .bin .leq (.tmp 17) (.const (.int .i64 140))⟩,
⟨some 19, none, false, .pick (.tmp 15) (.tmp 18) (.const (.bool false))⟩,
⟨some 6, none, false, .mov (.tmp 19)⟩]) .ret)) }
theorem pr9 : promFn 0 ⟨20, [], []⟩ ic9 = some ip9 := by kernel_rfl
/-- bandplan/demand.Valid, with registers -/
def ip11 : IFn := { ntmps := 36, results := [.tmp 4], code := (.seq (.ops false [
⟨some 4, none, false, .mov (.const (.bool false))⟩]) (.seq (.seq (.ops false [
⟨some 7, none, false, .mov (.tmp 0)⟩,
⟨some 8, none, false, .call (.func 26) [.tmp 7]⟩,
⟨some 9, none, false, .una .not (.tmp 8)⟩,
⟨some 10, none, false, .mov (.tmp 9)⟩,
⟨some 11, some (10, false), false, .mov (.tmp 1)⟩,
⟨some 12, some (10, false), false, .len .sl (.tmp 11)⟩,
⟨some 13, some (10, false), false, .mov (.tmp 0)⟩,
⟨some 14, some (10, false), false, .len .sl (.tmp 13)⟩,
⟨some 15, some (10, false), false, .bin .neq (.tmp 12) (.tmp 14)⟩,
⟨some 16, none, false, .pick (.tmp 10) (.const (.bool true)) (.tmp 15)⟩]) (.cond (.tmp 16) (.seq (.ops false [
⟨some 4, none, false, .mov (.const (.bool false))⟩]) .ret) .skip)) (.seq (.seq (.ops false [
⟨some 17, none, false, .mov (.tmp 1)⟩,
⟨some 18, none, false, .len .sl (.tmp 17)⟩,
⟨some 19, none, false, .mov (.const (.int .i64 0))⟩]) (.block 0 (.loop (.seq (.ops false [
⟨some 20, none, false, .bin .lss (.tmp 19) (.tmp 18)⟩]) (.seq (.cond (.tmp 20) .skip (.exit 0)) (.seq (.block 1 (.seq (.ops false [
⟨some 21, none, false, .mov (.tmp 19)⟩,
⟨some 22, none, false, .ixs 1 (.tmp 17) (.tmp 19)⟩,
⟨some 23, none, false, .ld1 (.tmp 22)⟩,
⟨some 5, none, false, .mov (.tmp 21)⟩,
⟨some 6, none, false, .mov (.tmp 23)⟩]) (.seq (.ops false [
⟨some 24, none, false, .mov (.tmp 6)⟩,
⟨some 25, none, false, .bin .lss (.tmp 24) (.const (.int .i64 0))⟩,
⟨some 26, none, false, .mov (.tmp 25)⟩,
⟨some 27, some (26, false), false, .mov (.tmp 6)⟩,
⟨some 28, some (26, false), false, .mov (.tmp 0)⟩,
⟨some 29, some (26, false), false, .mov (.tmp 5)⟩,
⟨some 30, some (26, false), false, .ixs 5 (.tmp 28) (.tmp 29)⟩,
⟨some 31, some (26, false), false, .fad 2 (.tmp 30)⟩,
⟨some 32, some (26, false), false, .ld1 (.tmp 31)⟩,
⟨some 33, some (26, false), false, .bin .gtr (.tmp 27) (.tmp 32)⟩,
⟨some 34, none, false, .pick (.tmp 26) (.const (.bool true)) (.tmp 33)⟩]) (.cond (.tmp 34) (.seq (.ops false [
⟨some 4, none, false, .mov (.const (.bool false))⟩]) .ret) .skip)))) (.ops false [
⟨some 35, none, false, .bin .add (.tmp 19) (.const (.int .i64 1))⟩,
⟨some 19, none, false, .mov (.tmp 35)⟩]))))))) (.seq (.ops false [
⟨some 4, none, false, .mov (.const (.bool true))⟩]) .ret)))) }
theorem pr11 : promFn 0 ⟨36, [], []⟩ ic11 = some ip11 := by kernel_rfl
/-- bandplan/bandplanref34.Valid, with registers -/
def ip12 : IFn := { ntmps := 39, results := [.tmp 4], code := (.seq (.ops false [
⟨some 4, none, false, .mov (.const (.bool false))⟩]) (.seq (.seq (.ops false [
⟨some 6, none, false, .mov (.tmp 0)⟩,
⟨some 7, none, false, .call (.func 27) [.tmp 6]⟩,
⟨some 8, none, false, .una .not (.tmp 7)⟩,
⟨some 9, none, false, .mov (.tmp 8)⟩,
⟨some 10, some (9, false), false, .mov (.tmp 1)⟩,
⟨some 11, some (9, false), false, .len .sl (.tmp 10)⟩,
⟨some 12, some (9, false), false, .mov (.tmp 0)⟩,
⟨some 13, some (9, false), false, .len .sl (.tmp 12)⟩,
⟨some 14, some (9, false), false, .bin .neq (.tmp 11) (.tmp 13)⟩,
⟨some 15, none, false, .pick (.tmp 9) (.const (.bool true)) (.tmp 14)⟩]) (.cond (.tmp 15) (.seq (.ops false [
⟨some 4, none, false, .mov (.const (.bool false))⟩]) .ret) .skip)) (.seq (.seq (.ops false [
⟨some 5, none, false, .mov (.const (.int .i64 0))⟩]) (.block 0 (.loop (.seq (.seq (.ops false [
⟨some 16, none, false, .mov (.tmp 5)⟩,
⟨some 17, none, false, .mov (.tmp 0)⟩,
⟨some 18, none, false, .len .sl (.tmp 17)⟩,
⟨some 19, none, false, .bin .lss (.tmp 16) (.tmp 18)⟩]) (.cond (.tmp 19) .skip (.exit 0))) (.seq (.block 1 (.seq (.ops true [
⟨some 22, none, false, .mov (.tmp 1)⟩,
⟨some 23, none, false, .mov (.tmp 5)⟩,
⟨some 24, none, false, .ixs 1 (.tmp 22) (.tmp 23)⟩,
⟨some 25, none, false, .ld1 (.tmp 24)⟩,
⟨some 26, none, false, .bin .lss (.tmp 25) (.const (.int .i64 0))⟩,
⟨some 27, none, false, .mov (.tmp 26)⟩,
⟨some 28, some (27, false), false, .mov (.tmp 1)⟩,
⟨some 29, some (27, false), false, .mov (.tmp 5)⟩,
⟨some 30, some (27, false), false, .ixs 1 (.tmp 28) (.tmp 29)⟩,
⟨some 31, some (27, false), false, .ld1 (.tmp 30)⟩,
⟨some 32, some (27, false), false, .mov (.tmp 0)⟩,
⟨some 33, some (27, false), false, .mov (.tmp 5)⟩,
⟨some 34, some (27, false), false, .ixs 5 (.tmp 32) (.tmp 33)⟩,
⟨some 35, some (27, false), false, .fad 2 (.tmp 34)⟩,
⟨some 36, some (27, false), false, .ld1 (.tmp 35)⟩,
⟨some 37, some (27, false), false, .bin .gtr (.tmp 31) (.tmp 36)⟩,
⟨some 38, none, false, .pick (.tmp 27) (.const (.bool true)) (.tmp 37)⟩]) (.cond (.tmp 38) (.seq (.ops false [
⟨some 4, none, false, .mov (.const (.bool false))⟩]) .ret) .skip))) (.ops false [
⟨some 20, none, false, .mov (.tmp 5)⟩,
⟨some 21, none, false, .bin .add (.tmp 20) (.const (.int .i64 1))⟩,
⟨some 5, none, false, .mov (.tmp 21)⟩])))))) (.seq (.ops false [
⟨some 4, none, false, .mov (.const (.bool true))⟩]) .ret)))) }
theorem pr12 : promFn 0 ⟨39, [], []⟩ ic12 = some ip12 := by kernel_rfl
/-- bandplan/demand.Units, with registers -/
def ip13 : IFn := { ntmps := 13, results := [.tmp 4, .tmp 5], code := (.seq (.ops false [
⟨some 2, none, false, .box 1 (.tmp 0)⟩,
⟨some 4, none, false, .mov (.const (.int .i64 0))⟩,
⟨some 5, none, false, .mov (.const (.int .i64 0))⟩]) (.seq (.seq (.ops false [
⟨some 6, none, false, .ld1 (.tmp 2)⟩,
⟨some 7, none, false, .mov (.tmp 1)⟩,
⟨some 8, none, false, .call (.func 11) [.tmp 6, .tmp 7]⟩,
⟨some 9, none, false, .una .not (.tmp 8)⟩]) (.cond (.tmp 9) (.seq (.ops false [
⟨some 4, none, false, .mov (.const (.int .i64 0))⟩,
⟨some 5, none, false, .mov (.const (.int .i64 2))⟩]) .ret) .skip)) (.seq (.ops false [
⟨some 10, none, false, .mov (.tmp 1)⟩,
⟨some 11, none, false, .fun_ (Fn.func 29) [] [.tmp 2]⟩,
⟨some 12, none, false, .call (.func 28) [.tmp 10, .tmp 11]⟩,
⟨some 4, none, false, .mov (.tmp 12)⟩,
⟨some 5, none, false, .mov (.const (.int .i64 0))⟩]) .ret))) }
theorem pr13 : promFn 0 ⟨13, [], []⟩ ic13 = some ip13 := by kernel_rfl
/-- bandplan/bandplanref34.Units, with registers -/
def ip14 : IFn := { ntmps := 14, results := [.tmp 4, .tmp 5], code := (.seq (.ops false [
⟨some 4, none, false, .mov (.const (.int .i64 0))⟩,
⟨some 5, none, false, .mov (.const (.int .i64 0))⟩]) (.seq (.seq (.ops false [
⟨some 6, none, false, .mov (.tmp 0)⟩,
⟨some 7, none, false, .mov (.tmp 1)⟩,
⟨some 8, none, false, .call (.func 12) [.tmp 6, .tmp 7]⟩,
⟨some 9, none, false, .una .not (.tmp 8)⟩]) (.cond (.tmp 9) (.seq (.ops false [
⟨some 4, none, false, .mov (.const (.int .i64 0))⟩,
⟨some 5, none, false, .mov (.const (.int .i64 2))⟩]) .ret) .skip)) (.seq (.ops false [
⟨some 10, none, false, .mov (.tmp 0)⟩,
⟨some 11, none, false, .call (.func 31) [.tmp 10]⟩,
⟨some 12, none, false, .mov (.tmp 1)⟩,
⟨some 13, none, false, .call (.func 30) [.tmp 11, .tmp 12]⟩,
⟨some 4, none, false, .mov (.tmp 13)⟩,
⟨some 5, none, false, .mov (.const (.int .i64 0))⟩]) .ret))) }
theorem pr14 : promFn 0 ⟨14, [], []⟩ ic14 = some ip14 := by kernel_rfl
/-- bandplan/demand.Cost, with registers -/
def ip15 : IFn := { ntmps := 37, results := [.tmp 6, .tmp 7], code := (.seq (.ops false [
⟨some 4, none, false, .box 1 (.tmp 1)⟩,
⟨some 6, none, false, .mov (.const (.int .i64 0))⟩,
⟨some 7, none, false, .mov (.const (.int .i64 0))⟩]) (.seq (.seq (.ops false [
⟨some 10, none, false, .mov (.tmp 0)⟩,
⟨some 11, none, false, .mov (.tmp 2)⟩,
⟨some 12, none, false, .call (.func 11) [.tmp 10, .tmp 11]⟩,
⟨some 13, none, false, .una .not (.tmp 12)⟩,
⟨some 14, none, false, .mov (.tmp 13)⟩,
⟨some 15, some (14, false), false, .ld1 (.tmp 4)⟩,
⟨some 16, some (14, false), false, .len .sl (.tmp 15)⟩,
⟨some 17, some (14, false), false, .mov (.tmp 0)⟩,
⟨some 18, some (14, false), false, .len .sl (.tmp 17)⟩,
⟨some 19, some (14, false), false, .bin .neq (.tmp 16) (.tmp 18)⟩,
⟨some 20, none, false, .pick (.tmp 14) (.const (.bool true)) (.tmp 19)⟩]) (.cond (.tmp 20) (.seq (.ops false [
⟨some 6, none, false, .mov (.const (.int .i64 0))⟩,
⟨some 7, none, false, .mov (.const (.int .i64 2))⟩]) .ret) .skip)) (.seq (.seq (.ops false [
⟨some 21, none, false, .ld1 (.tmp 4)⟩,
⟨some 22, none, false, .len .sl (.tmp 21)⟩,
⟨some 23, none, false, .mov (.const (.int .i64 0))⟩]) (.block 0 (.loop (.seq (.ops false [
⟨some 24, none, false, .bin .lss (.tmp 23) (.tmp 22)⟩]) (.seq (.cond (.tmp 24) .skip (.exit 0)) (.seq (.block 1 (.seq (.ops false [
⟨some 25, none, false, .ixs 1 (.tmp 21) (.tmp 23)⟩,
⟨some 26, none, false, .ld1 (.tmp 25)⟩,
⟨some 9, none, false, .mov (.tmp 26)⟩]) (.seq (.ops false [
⟨some 27, none, false, .mov (.tmp 9)⟩,
⟨some 28, none, false, .bin .lss (.tmp 27) (.const (.int .i64 0))⟩,
⟨some 29, none, false, .mov (.tmp 28)⟩,
⟨some 30, some (29, false), false, .mov (.tmp 9)⟩,
⟨some 31, some (29, false), false, .bin .gtr (.tmp 30) (.const (.int .i64 549755813888))⟩,
⟨some 32, none, false, .pick (.tmp 29) (.const (.bool true)) (.tmp 31)⟩]) (.cond (.tmp 32) (.seq (.ops false [
⟨some 6, none, false, .mov (.const (.int .i64 0))⟩,
⟨some 7, none, false, .mov (.const (.int .i64 2))⟩]) .ret) .skip)))) (.ops false [
⟨some 33, none, false, .bin .add (.tmp 23) (.const (.int .i64 1))⟩,
⟨some 23, none, false, .mov (.tmp 33)⟩]))))))) (.seq (.ops false [
⟨some 34, none, false, .mov (.tmp 2)⟩,
⟨some 35, none, false, .fun_ (Fn.func 32) [] [.tmp 4]⟩,
⟨some 36, none, false, .call (.func 28) [.tmp 34, .tmp 35]⟩,
⟨some 6, none, false, .mov (.tmp 36)⟩,
⟨some 7, none, false, .mov (.const (.int .i64 0))⟩]) .ret)))) }
theorem pr15 : promFn 0 ⟨37, [], []⟩ ic15 = some ip15 := by kernel_rfl
/-- bandplan/bandplanref34.Cost, with registers -/
def ip16 : IFn := { ntmps := 22, results := [.tmp 6, .tmp 7], code := (.seq (.ops false [
⟨some 6, none, false, .mov (.const (.int .i64 0))⟩,
⟨some 7, none, false, .mov (.const (.int .i64 0))⟩]) (.seq (.seq (.ops false [
⟨some 8, none, false, .mov (.tmp 0)⟩,
⟨some 9, none, false, .mov (.tmp 2)⟩,
⟨some 10, none, false, .call (.func 12) [.tmp 8, .tmp 9]⟩,
⟨some 11, none, false, .una .not (.tmp 10)⟩,
⟨some 12, none, false, .mov (.tmp 11)⟩,
⟨some 13, some (12, false), false, .mov (.tmp 1)⟩,
⟨some 14, some (12, false), false, .mov (.tmp 0)⟩,
⟨some 15, some (12, false), false, .len .sl (.tmp 14)⟩,
⟨some 16, some (12, false), false, .call (.func 33) [.tmp 13, .tmp 15]⟩,
⟨some 17, some (12, false), false, .una .not (.tmp 16)⟩,
⟨some 18, none, false, .pick (.tmp 12) (.const (.bool true)) (.tmp 17)⟩]) (.cond (.tmp 18) (.seq (.ops false [
⟨some 6, none, false, .mov (.const (.int .i64 0))⟩,
⟨some 7, none, false, .mov (.const (.int .i64 2))⟩]) .ret) .skip)) (.seq (.ops false [
⟨some 19, none, false, .mov (.tmp 1)⟩,
⟨some 20, none, false, .mov (.tmp 2)⟩,
⟨some 21, none, false, .call (.func 30) [.tmp 19, .tmp 20]⟩,
⟨some 6, none, false, .mov (.tmp 21)⟩,
⟨some 7, none, false, .mov (.const (.int .i64 0))⟩]) .ret))) }
theorem pr16 : promFn 0 ⟨22, [], []⟩ ic16 = some ip16 := by kernel_rfl
/-- bandplan/demand.Excess, with registers -/
def ip17 : IFn := { ntmps := 46, results := [.tmp 4, .tmp 5], code := (.seq (.ops false [
⟨some 4, none, false, .mov (.const (Value.slice none 0 0))⟩,
⟨some 5, none, false, .mov (.const (.int .i64 0))⟩]) (.seq (.seq (.ops false [
⟨some 9, none, false, .mov (.tmp 0)⟩,
⟨some 10, none, false, .call (.func 26) [.tmp 9]⟩,
⟨some 11, none, false, .una .not (.tmp 10)⟩,
⟨some 12, none, false, .mov (.tmp 11)⟩,
⟨some 13, some (12, false), false, .mov (.tmp 1)⟩,
⟨some 14, some (12, false), false, .len .sl (.tmp 13)⟩,
⟨some 15, some (12, false), false, .mov (.tmp 0)⟩,
⟨some 16, some (12, false), false, .len .sl (.tmp 15)⟩,
⟨some 17, some (12, false), false, .bin .neq (.tmp 14) (.tmp 16)⟩,
⟨some 18, none, false, .pick (.tmp 12) (.const (.bool true)) (.tmp 17)⟩,
⟨some 19, none, false, .mov (.tmp 18)⟩,
⟨some 20, some (19, false), false, .mov (.tmp 1)⟩,
⟨some 21, some (19, false), false, .call (.func 34) [.tmp 20, .func 35]⟩,
⟨some 22, none, false, .pick (.tmp 19) (.const (.bool true)) (.tmp 21)⟩]) (.cond (.tmp 22) (.seq (.ops false [
⟨some 4, none, false, .mov (.const (Value.slice none 0 0))⟩,
⟨some 5, none, false, .mov (.const (.int .i64 2))⟩]) .ret) .skip)) (.seq (.ops false [
⟨some 23, none, false, .mov (.tmp 0)⟩,
⟨some 24, none, false, .len .sl (.tmp 23)⟩,
⟨some 25, none, false, .mks 1 8 [.int .i64 0] (.tmp 24) (.tmp 24)⟩,
⟨some 6, none, false, .mov (.tmp 25)⟩]) (.seq (.seq (.ops false [
⟨some 26, none, false, .mov (.tmp 1)⟩,
⟨some 27, none, false, .len .sl (.tmp 26)⟩,
⟨some 28, none, false, .mov (.const (.int .i64 0))⟩]) (.block 0 (.loop (.seq (.ops false [
⟨some 29, none, false, .bin .lss (.tmp 28) (.tmp 27)⟩]) (.seq (.cond (.tmp 29) .skip (.exit 0)) (.seq (.block 1 (.seq (.ops false [
⟨some 30, none, false, .mov (.tmp 28)⟩,
⟨some 31, none, false, .ixs 1 (.tmp 26) (.tmp 28)⟩,
⟨some 32, none, false, .ld1 (.tmp 31)⟩,
⟨some 7, none, false, .mov (.tmp 30)⟩,
⟨some 8, none, false, .mov (.tmp 32)⟩]) (.ops false [
⟨some 33, none, false, .mov (.tmp 6)⟩,
⟨some 34, none, false, .mov (.tmp 7)⟩,
⟨some 35, none, false, .mov (.tmp 8)⟩,
⟨some 36, none, false, .mov (.tmp 0)⟩,
⟨some 37, none, false, .mov (.tmp 7)⟩,
⟨some 38, none, false, .ixs 5 (.tmp 36) (.tmp 37)⟩,
⟨some 39, none, false, .fad 2 (.tmp 38)⟩,
⟨some 40, none, false, .ld1 (.tmp 39)⟩,
⟨some 41, none, false, .bin .sub (.tmp 35) (.tmp 40)⟩,
⟨some 42, none, false, .mnx true [.const (.int .i64 0), .tmp 41]⟩,
⟨some 43, none, false, .ixs 1 (.tmp 33) (.tmp 34)⟩,
⟨none, none, false, .sto 1 (.tmp 43) (.tmp 42)⟩]))) (.ops false [
⟨some 44, none, false, .bin .add (.tmp 28) (.const (.int .i64 1))⟩,
⟨some 28, none, false, .mov (.tmp 44)⟩]))))))) (.seq (.ops false [
⟨some 45, none, false, .mov (.tmp 6)⟩,
⟨some 4, none, false, .mov (.tmp 45)⟩,
⟨some 5, none, false, .mov (.const (.int .i64 0))⟩]) .ret))))) }
theorem pr17 : promFn 0 ⟨46, [], []⟩ ic17 = some ip17 := by kernel_rfl
/-- bandplan/bandplanref34.Excess, with registers -/
def ip18 : IFn := { ntmps := 51, results := [.tmp 4, .tmp 5], code := (.seq (.ops false [
⟨some 4, none, false, .mov (.const (Value.slice none 0 0))⟩,
⟨some 5, none, false, .mov (.const (.int .i64 0))⟩]) (.seq (.seq (.ops false [
⟨some 8, none, false, .mov (.tmp 0)⟩,
⟨some 9, none, false, .call (.func 27) [.tmp 8]⟩,
⟨some 10, none, false, .una .not (.tmp 9)⟩,
⟨some 11, none, false, .mov (.tmp 10)⟩,
⟨some 12, some (11, false), false, .mov (.tmp 1)⟩,
⟨some 13, some (11, false), false, .len .sl (.tmp 12)⟩,
⟨some 14, some (11, false), false, .mov (.tmp 0)⟩,
⟨some 15, some (11, false), false, .len .sl (.tmp 14)⟩,
⟨some 16, some (11, false), false, .bin .neq (.tmp 13) (.tmp 15)⟩,
⟨some 17, none, false, .pick (.tmp 11) (.const (.bool true)) (.tmp 16)⟩]) (.cond (.tmp 17) (.seq (.ops false [
⟨some 4, none, false, .mov (.const (Value.slice none 0 0))⟩,
⟨some 5, none, false, .mov (.const (.int .i64 2))⟩]) .ret) .skip)) (.seq (.ops false [
⟨some 6, none, false, .mov (.const (Value.slice none 0 0))⟩]) (.seq (.seq (.ops false [
⟨some 7, none, false, .mov (.const (.int .i64 0))⟩]) (.block 0 (.loop (.seq (.seq (.ops false [
⟨some 18, none, false, .mov (.tmp 7)⟩,
⟨some 19, none, false, .mov (.tmp 0)⟩,
⟨some 20, none, false, .len .sl (.tmp 19)⟩,
⟨some 21, none, false, .bin .lss (.tmp 18) (.tmp 20)⟩]) (.cond (.tmp 21) .skip (.exit 0))) (.seq (.block 1 (.seq (.seq (.ops false [
⟨some 24, none, false, .mov (.tmp 1)⟩,
⟨some 25, none, false, .mov (.tmp 7)⟩,
⟨some 26, none, false, .ixs 1 (.tmp 24) (.tmp 25)⟩,
⟨some 27, none, false, .ld1 (.tmp 26)⟩,
⟨some 28, none, false, .bin .lss (.tmp 27) (.const (.int .i64 0))⟩,
⟨some 29, none, false, .mov (.tmp 28)⟩,
⟨some 30, some (29, false), false, .mov (.tmp 1)⟩,
⟨some 31, some (29, false), false, .mov (.tmp 7)⟩,
⟨some 32, some (29, false), false, .ixs 1 (.tmp 30) (.tmp 31)⟩,
⟨some 33, some (29, false), false, .ld1 (.tmp 32)⟩,
⟨some 34, some (29, false), false, .bin .gtr (.tmp 33) (.const (.int .i64 384))⟩,
⟨some 35, none, false, .pick (.tmp 29) (.const (.bool true)) (.tmp 34)⟩]) (.cond (.tmp 35) (.seq (.ops false [
⟨some 4, none, false, .mov (.const (Value.slice none 0 0))⟩,
⟨some 5, none, false, .mov (.const (.int .i64 2))⟩]) .ret) .skip)) (.ops true [
⟨some 36, none, false, .mov (.tmp 6)⟩,
⟨some 37, none, false, .mov (.tmp 1)⟩,
⟨some 38, none, false, .mov (.tmp 7)⟩,
⟨some 39, none, false, .ixs 1 (.tmp 37) (.tmp 38)⟩,
⟨some 40, none, false, .ld1 (.tmp 39)⟩,
⟨some 41, none, false, .mov (.tmp 0)⟩,
⟨some 42, none, false, .mov (.tmp 7)⟩,
⟨some 43, none, false, .ixs 5 (.tmp 41) (.tmp 42)⟩,
⟨some 44, none, false, .fad 2 (.tmp 43)⟩,
⟨some 45, none, false, .ld1 (.tmp 44)⟩,
⟨some 46, none, false, .bin .sub (.tmp 40) (.tmp 45)⟩,
⟨some 47, none, false, .mnx true [.const (.int .i64 0), .tmp 46]⟩,
⟨some 48, none, false, .bld [.int .i64 0] [(0, 1, .tmp 47)]⟩,
⟨some 49, none, false, .apl 1 8 1 (.tmp 36) (.tmp 48)⟩,
⟨some 6, none, false, .mov (.tmp 49)⟩]))) (.ops false [
⟨some 22, none, false, .mov (.tmp 7)⟩,
⟨some 23, none, false, .bin .add (.tmp 22) (.const (.int .i64 1))⟩,
⟨some 7, none, false, .mov (.tmp 23)⟩])))))) (.seq (.ops false [
⟨some 50, none, false, .mov (.tmp 6)⟩,
⟨some 4, none, false, .mov (.tmp 50)⟩,
⟨some 5, none, false, .mov (.const (.int .i64 0))⟩]) .ret))))) }
theorem pr18 : promFn 0 ⟨51, [], [48]⟩ ic18 = some ip18 := by kernel_rfl
/-- bandplan/bandplanref34.Same, with registers -/
def ip19 : IFn := { ntmps := 26, results := [.tmp 4], code := (.seq (.ops false [
⟨some 4, none, false, .mov (.const (.bool false))⟩]) (.seq (.seq (.ops false [
⟨some 6, none, false, .mov (.tmp 0)⟩,
⟨some 7, none, false, .len .sl (.tmp 6)⟩,
⟨some 8, none, false, .mov (.tmp 1)⟩,
⟨some 9, none, false, .len .sl (.tmp 8)⟩,
⟨some 10, none, false, .bin .neq (.tmp 7) (.tmp 9)⟩]) (.cond (.tmp 10) (.seq (.ops false [
⟨some 4, none, false, .mov (.const (.bool false))⟩]) .ret) .skip)) (.seq (.seq (.ops false [
⟨some 5, none, false, .mov (.const (.int .i64 0))⟩]) (.block 0 (.loop (.seq (.seq (.ops false [
⟨some 11, none, false, .mov (.tmp 5)⟩,
⟨some 12, none, false, .mov (.tmp 0)⟩,
⟨some 13, none, false, .len .sl (.tmp 12)⟩,
⟨some 14, none, false, .bin .lss (.tmp 11) (.tmp 13)⟩]) (.cond (.tmp 14) .skip (.exit 0))) (.seq (.block 1 (.seq (.ops true [
⟨some 17, none, false, .mov (.tmp 0)⟩,
⟨some 18, none, false, .mov (.tmp 5)⟩,
⟨some 19, none, false, .ixs 1 (.tmp 17) (.tmp 18)⟩,
⟨some 20, none, false, .ld1 (.tmp 19)⟩,
⟨some 21, none, false, .mov (.tmp 1)⟩,
⟨some 22, none, false, .mov (.tmp 5)⟩,
⟨some 23, none, false, .ixs 1 (.tmp 21) (.tmp 22)⟩,
⟨some 24, none, false, .ld1 (.tmp 23)⟩,
⟨some 25, none, false, .bin .neq (.tmp 20) (.tmp 24)⟩]) (.cond (.tmp 25) (.seq (.ops false [
⟨some 4, none, false, .mov (.const (.bool false))⟩]) .ret) .skip))) (.ops false [
⟨some 15, none, false, .mov (.tmp 5)⟩,
⟨some 16, none, false, .bin .add (.tmp 15) (.const (.int .i64 1))⟩,
⟨some 5, none, false, .mov (.tmp 16)⟩])))))) (.seq (.ops false [
⟨some 4, none, false, .mov (.const (.bool true))⟩]) .ret)))) }
theorem pr19 : promFn 0 ⟨26, [], []⟩ ic19 = some ip19 := by kernel_rfl
/-- bandplan/demand.Change, with registers -/
def ip20 : IFn := { ntmps := 56, results := [.tmp 8, .tmp 9], code := (.seq (.ops false [
⟨some 8, none, false, .mov (.const (Value.slice none 0 0))⟩,
⟨some 9, none, false, .mov (.const (.int .i64 0))⟩]) (.seq (.seq (.ops false [
⟨some 11, none, false, .mov (.tmp 0)⟩,
⟨some 12, none, false, .mov (.tmp 1)⟩,
⟨some 13, none, false, .call (.func 11) [.tmp 11, .tmp 12]⟩,
⟨some 14, none, false, .una .not (.tmp 13)⟩,
⟨some 15, none, false, .mov (.tmp 14)⟩,
⟨some 16, some (15, false), false, .mov (.tmp 2)⟩,
⟨some 17, some (15, false), false, .bin .lss (.tmp 16) (.const (.int .i64 0))⟩,
⟨some 18, none, false, .pick (.tmp 15) (.const (.bool true)) (.tmp 17)⟩,
⟨some 19, none, false, .mov (.tmp 18)⟩,
⟨some 20, some (19, false), false, .mov (.tmp 2)⟩,
⟨some 21, some (19, false), false, .mov (.tmp 0)⟩,
⟨some 22, some (19, false), false, .len .sl (.tmp 21)⟩,
⟨some 23, some (19, false), false, .bin .geq (.tmp 20) (.tmp 22)⟩,
⟨some 24, none, false, .pick (.tmp 19) (.const (.bool true)) (.tmp 23)⟩]) (.cond (.tmp 24) (.seq (.ops false [
⟨some 8, none, false, .mov (.const (Value.slice none 0 0))⟩,
⟨some 9, none, false, .mov (.const (.int .i64 2))⟩]) .ret) .skip)) (.seq (.seq (.ops true [
⟨some 25, none, false, .mov (.tmp 3)⟩,
⟨some 26, none, false, .mov (.tmp 1)⟩,
⟨some 27, none, false, .mov (.tmp 2)⟩,
⟨some 28, none, false, .ixs 1 (.tmp 26) (.tmp 27)⟩,
⟨some 29, none, false, .ld1 (.tmp 28)⟩,
⟨some 30, none, false, .una .neg (.tmp 29)⟩,
⟨some 31, none, false, .bin .lss (.tmp 25) (.tmp 30)⟩,
⟨some 32, none, false, .mov (.tmp 31)⟩,
⟨some 33, some (32, false), false, .mov (.tmp 3)⟩,
⟨some 34, some (32, false), false, .mov (.tmp 0)⟩,
⟨some 35, some (32, false), false, .mov (.tmp 2)⟩,
⟨some 36, some (32, false), false, .ixs 5 (.tmp 34) (.tmp 35)⟩,
⟨some 37, some (32, false), false, .fad 2 (.tmp 36)⟩,
⟨some 38, some (32, false), false, .ld1 (.tmp 37)⟩,
⟨some 39, some (32, false), false, .mov (.tmp 1)⟩,
⟨some 40, some (32, false), false, .mov (.tmp 2)⟩,
⟨some 41, some (32, false), false, .ixs 1 (.tmp 39) (.tmp 40)⟩,
⟨some 42, some (32, false), false, .ld1 (.tmp 41)⟩,
⟨some 43, some (32, false), false, .bin .sub (.tmp 38) (.tmp 42)⟩,
⟨some 44, some (32, false), false, .bin .gtr (.tmp 33) (.tmp 43)⟩,
⟨some 45, none, false, .pick (.tmp 32) (.const (.bool true)) (.tmp 44)⟩]) (.cond (.tmp 45) (.seq (.ops false [
⟨some 8, none, false, .mov (.const (Value.slice none 0 0))⟩,
⟨some 9, none, false, .mov (.const (.int .i64 3))⟩]) .ret) .skip)) (.seq (.ops false [
⟨some 46, none, false, .mov (.tmp 1)⟩,
⟨some 47, none, false, .call (.func 36) [.tmp 46]⟩,
⟨some 10, none, false, .mov (.tmp 47)⟩]) (.seq (.ops false [
⟨some 48, none, false, .mov (.tmp 10)⟩,
⟨some 49, none, false, .mov (.tmp 2)⟩,
⟨some 50, none, false, .ixs 1 (.tmp 48) (.tmp 49)⟩,
⟨some 51, none, false, .ld1 (.tmp 50)⟩,
⟨some 52, none, false, .mov (.tmp 3)⟩,
⟨some 53, none, false, .bin .add (.tmp 51) (.tmp 52)⟩,
⟨some 54, none, false, .ixs 1 (.tmp 48) (.tmp 49)⟩,
⟨none, none, false, .sto 1 (.tmp 54) (.tmp 53)⟩]) (.seq (.ops false [
⟨some 55, none, false, .mov (.tmp 10)⟩,
⟨some 8, none, false, .mov (.tmp 55)⟩,
⟨some 9, none, false, .mov (.const (.int .i64 0))⟩]) .ret)))))) }
theorem pr20 : promFn 0 ⟨56, [], []⟩ ic20 = some ip20 := by kernel_rfl
/-- bandplan/bandplanref34.Change, with registers -/
def ip21 : IFn := { ntmps := 58, results := [.tmp 8, .tmp 9], code := (.seq (.ops false [
⟨some 8, none, false, .mov (.const (Value.slice none 0 0))⟩,
⟨some 9, none, false, .mov (.const (.int .i64 0))⟩]) (.seq (.seq (.ops false [
⟨some 11, none, false, .mov (.tmp 0)⟩,
⟨some 12, none, false, .mov (.tmp 1)⟩,
⟨some 13, none, false, .call (.func 12) [.tmp 11, .tmp 12]⟩,
⟨some 14, none, false, .una .not (.tmp 13)⟩,
⟨some 15, none, false, .mov (.tmp 14)⟩,
⟨some 16, some (15, false), false, .mov (.tmp 2)⟩,
⟨some 17, some (15, false), false, .bin .lss (.tmp 16) (.const (.int .i64 0))⟩,
⟨some 18, none, false, .pick (.tmp 15) (.const (.bool true)) (.tmp 17)⟩,
⟨some 19, none, false, .mov (.tmp 18)⟩,
⟨some 20, some (19, false), false, .mov (.tmp 2)⟩,
⟨some 21, some (19, false), false, .mov (.tmp 0)⟩,
⟨some 22, some (19, false), false, .len .sl (.tmp 21)⟩,
⟨some 23, some (19, false), false, .bin .geq (.tmp 20) (.tmp 22)⟩,
⟨some 24, none, false, .pick (.tmp 19) (.const (.bool true)) (.tmp 23)⟩]) (.cond (.tmp 24) (.seq (.ops false [
⟨some 8, none, false, .mov (.const (Value.slice none 0 0))⟩,
⟨some 9, none, false, .mov (.const (.int .i64 2))⟩]) .ret) .skip)) (.seq (.seq (.ops true [
⟨some 25, none, false, .mov (.tmp 3)⟩,
⟨some 26, none, false, .mov (.tmp 1)⟩,
⟨some 27, none, false, .mov (.tmp 2)⟩,
⟨some 28, none, false, .ixs 1 (.tmp 26) (.tmp 27)⟩,
⟨some 29, none, false, .ld1 (.tmp 28)⟩,
⟨some 30, none, false, .una .neg (.tmp 29)⟩,
⟨some 31, none, false, .bin .lss (.tmp 25) (.tmp 30)⟩,
⟨some 32, none, false, .mov (.tmp 31)⟩,
⟨some 33, some (32, false), false, .mov (.tmp 3)⟩,
⟨some 34, some (32, false), false, .mov (.tmp 0)⟩,
⟨some 35, some (32, false), false, .mov (.tmp 2)⟩,
⟨some 36, some (32, false), false, .ixs 5 (.tmp 34) (.tmp 35)⟩,
⟨some 37, some (32, false), false, .fad 2 (.tmp 36)⟩,
⟨some 38, some (32, false), false, .ld1 (.tmp 37)⟩,
⟨some 39, some (32, false), false, .mov (.tmp 1)⟩,
⟨some 40, some (32, false), false, .mov (.tmp 2)⟩,
⟨some 41, some (32, false), false, .ixs 1 (.tmp 39) (.tmp 40)⟩,
⟨some 42, some (32, false), false, .ld1 (.tmp 41)⟩,
⟨some 43, some (32, false), false, .bin .sub (.tmp 38) (.tmp 42)⟩,
⟨some 44, some (32, false), false, .bin .gtr (.tmp 33) (.tmp 43)⟩,
⟨some 45, none, false, .pick (.tmp 32) (.const (.bool true)) (.tmp 44)⟩]) (.cond (.tmp 45) (.seq (.ops false [
⟨some 8, none, false, .mov (.const (Value.slice none 0 0))⟩,
⟨some 9, none, false, .mov (.const (.int .i64 3))⟩]) .ret) .skip)) (.seq (.ops false [
⟨some 46, none, false, .mov (.tmp 1)⟩,
⟨some 47, none, false, .app 1 8 (.const (Value.slice none 0 0)) (.tmp 46)⟩,
⟨some 10, none, false, .mov (.tmp 47)⟩]) (.seq (.ops false [
⟨some 48, none, false, .mov (.tmp 10)⟩,
⟨some 49, none, false, .mov (.tmp 2)⟩,
⟨some 50, none, false, .mov (.tmp 10)⟩,
⟨some 51, none, false, .mov (.tmp 2)⟩,
⟨some 52, none, false, .ixs 1 (.tmp 50) (.tmp 51)⟩,
⟨some 53, none, false, .ld1 (.tmp 52)⟩,
⟨some 54, none, false, .mov (.tmp 3)⟩,
⟨some 55, none, false, .bin .add (.tmp 53) (.tmp 54)⟩,
⟨some 56, none, false, .ixs 1 (.tmp 48) (.tmp 49)⟩,
⟨none, none, false, .sto 1 (.tmp 56) (.tmp 55)⟩]) (.seq (.ops false [
⟨some 57, none, false, .mov (.tmp 10)⟩,
⟨some 8, none, false, .mov (.tmp 57)⟩,
⟨some 9, none, false, .mov (.const (.int .i64 0))⟩]) .ret)))))) }
theorem pr21 : promFn 0 ⟨58, [], []⟩ ic21 = some ip21 := by kernel_rfl
/-- bandplan/demand.Carry, with registers -/
def ip22 : IFn := { ntmps := 67, results := [.tmp 6, .tmp 7], code := (.seq (.ops false [
⟨some 10, none, false, .mov (.const undef)⟩,
⟨some 13, none, false, .mov (.const undef)⟩,
⟨some 6, none, false, .mov (.const (Value.slice none 0 0))⟩,
⟨some 7, none, false, .mov (.const (.int .i64 0))⟩]) (.seq (.seq (.ops false [
⟨some 14, none, false, .mov (.tmp 0)⟩,
⟨some 15, none, false, .mov (.tmp 2)⟩,
⟨some 16, none, false, .call (.func 11) [.tmp 14, .tmp 15]⟩,
⟨some 17, none, false, .una .not (.tmp 16)⟩,
⟨some 18, none, false, .mov (.tmp 17)⟩,
⟨some 19, some (18, false), false, .mov (.tmp 1)⟩,
⟨some 20, some (18, false), false, .call (.func 26) [.tmp 19]⟩,
⟨some 21, some (18, false), false, .una .not (.tmp 20)⟩,
⟨some 22, none, false, .pick (.tmp 18) (.const (.bool true)) (.tmp 21)⟩]) (.cond (.tmp 22) (.seq (.ops false [
⟨some 6, none, false, .mov (.const (Value.slice none 0 0))⟩,
⟨some 7, none, false, .mov (.const (.int .i64 2))⟩]) .ret) .skip)) (.seq (.ops false [
⟨some 23, none, false, .mkm⟩,
⟨some 8, none, false, .mov (.tmp 23)⟩]) (.seq (.seq (.ops false [
⟨some 24, none, false, .mov (.tmp 0)⟩,
⟨some 25, none, false, .len .sl (.tmp 24)⟩,
⟨some 26, none, false, .mov (.const (.int .i64 0))⟩]) (.block 0 (.loop (.seq (.ops false [
⟨some 27, none, false, .bin .lss (.tmp 26) (.tmp 25)⟩]) (.seq (.cond (.tmp 27) .skip (.exit 0)) (.seq (.block 1 (.seq (.ops false [
⟨some 28, none, false, .mov (.tmp 26)⟩,
⟨some 29, none, false, .ixs 5 (.tmp 24) (.tmp 26)⟩,
⟨some 30, none, false, .ldn 5 (.tmp 29)⟩,
⟨some 10, none, false, .reg [.int .i64 0, .int .i64 0, .int .i64 0, .int .i64 0, .int .i64 0]⟩,
⟨some 9, none, false, .mov (.tmp 28)⟩,
⟨some 10, none, false, .upd 0 5 (.tmp 10) (.tmp 30)⟩]) (.ops true [
⟨some 31, none, false, .mov (.tmp 8)⟩,
⟨some 32, none, false, .fld 0 (some 0) (.tmp 10)⟩,
⟨some 33, none, false, .fld 0 none (.tmp 10)⟩,
⟨some 34, none, false, .fld 0 (some 0) (.tmp 10)⟩,
⟨some 35, none, false, .fld 1 none (.tmp 10)⟩,
⟨some 36, none, false, .bld [.int .i64 0, .int .i64 0] [(0, 1, .tmp 33), (1, 1, .tmp 35)]⟩,
⟨some 37, none, false, .mov (.tmp 2)⟩,
⟨some 38, none, false, .mov (.tmp 9)⟩,
⟨some 39, none, false, .ixs 1 (.tmp 37) (.tmp 38)⟩,
⟨some 40, none, false, .ld1 (.tmp 39)⟩,
⟨none, none, false, .mup ⟨true, [.i, .i]⟩ (.tmp 31) (.tmp 36) (.tmp 40)⟩]))) (.ops false [
⟨some 41, none, false, .bin .add (.tmp 26) (.const (.int .i64 1))⟩,
⟨some 26, none, false, .mov (.tmp 41)⟩]))))))) (.seq (.ops false [
⟨some 42, none, false, .mov (.tmp 1)⟩,
⟨some 43, none, false, .len .sl (.tmp 42)⟩,
⟨some 44, none, false, .mks 1 8 [.int .i64 0] (.tmp 43) (.tmp 43)⟩,
⟨some 11, none, false, .mov (.tmp 44)⟩]) (.seq (.seq (.ops false [
⟨some 45, none, false, .mov (.tmp 1)⟩,
⟨some 46, none, false, .len .sl (.tmp 45)⟩,
⟨some 47, none, false, .mov (.const (.int .i64 0))⟩]) (.block 2 (.loop (.seq (.ops false [
⟨some 48, none, false, .bin .lss (.tmp 47) (.tmp 46)⟩]) (.seq (.cond (.tmp 48) .skip (.exit 2)) (.seq (.block 3 (.seq (.ops false [
⟨some 49, none, false, .mov (.tmp 47)⟩,
⟨some 50, none, false, .ixs 5 (.tmp 45) (.tmp 47)⟩,
⟨some 51, none, false, .ldn 5 (.tmp 50)⟩,
⟨some 13, none, false, .reg [.int .i64 0, .int .i64 0, .int .i64 0, .int .i64 0, .int .i64 0]⟩,
⟨some 12, none, false, .mov (.tmp 49)⟩,
⟨some 13, none, false, .upd 0 5 (.tmp 13) (.tmp 51)⟩]) (.ops true [
⟨some 52, none, false, .mov (.tmp 11)⟩,
⟨some 53, none, false, .mov (.tmp 12)⟩,
⟨some 54, none, false, .mov (.tmp 8)⟩,
⟨some 55, none, false, .fld 0 (some 0) (.tmp 13)⟩,
⟨some 56, none, false, .fld 0 none (.tmp 13)⟩,
⟨some 57, none, false, .fld 0 (some 0) (.tmp 13)⟩,
⟨some 58, none, false, .fld 1 none (.tmp 13)⟩,
⟨some 59, none, false, .bld [.int .i64 0, .int .i64 0] [(0, 1, .tmp 56), (1, 1, .tmp 58)]⟩,
⟨some 60, none, false, .lkp ⟨true, [.i, .i]⟩ (.int .i64 0) false (.tmp 54) (.tmp 59)⟩,
⟨some 61, none, false, .fld 0 (some 0) (.tmp 13)⟩,
⟨some 62, none, false, .fld 2 none (.tmp 13)⟩,
⟨some 63, none, false, .mnx false [.tmp 60, .tmp 62]⟩,
⟨some 64, none, false, .ixs 1 (.tmp 52) (.tmp 53)⟩,
⟨none, none, false, .sto 1 (.tmp 64) (.tmp 63)⟩]))) (.ops false [
⟨some 65, none, false, .bin .add (.tmp 47) (.const (.int .i64 1))⟩,
⟨some 47, none, false, .mov (.tmp 65)⟩]))))))) (.seq (.ops false [
⟨some 66, none, false, .mov (.tmp 11)⟩,
⟨some 6, none, false, .mov (.tmp 66)⟩,
⟨some 7, none, false, .mov (.const (.int .i64 0))⟩]) .ret))))))) }
theorem pr22 : promFn 0 ⟨67, [10, 13], [32, 34, 55, 57, 61]⟩ ic22 = some ip22 := by kernel_rfl
/-- bandplan/bandplanref34.Carry, with registers -/
def ip23 : IFn := { ntmps := 72, results := [.tmp 6, .tmp 7], code := (.seq (.ops false [
⟨some 6, none, false, .mov (.const (Value.slice none 0 0))⟩,
⟨some 7, none, false, .mov (.const (.int .i64 0))⟩]) (.seq (.seq (.ops false [
⟨some 12, none, false, .mov (.tmp 0)⟩,
⟨some 13, none, false, .mov (.tmp 2)⟩,
⟨some 14, none, false, .call (.func 12) [.tmp 12, .tmp 13]⟩,
⟨some 15, none, false, .una .not (.tmp 14)⟩,
⟨some 16, none, false, .mov (.tmp 15)⟩,
⟨some 17, some (16, false), false, .mov (.tmp 1)⟩,
⟨some 18, some (16, false), false, .call (.func 27) [.tmp 17]⟩,
⟨some 19, some (16, false), false, .una .not (.tmp 18)⟩,
⟨some 20, none, false, .pick (.tmp 16) (.const (.bool true)) (.tmp 19)⟩]) (.cond (.tmp 20) (.seq (.ops false [
⟨some 6, none, false, .mov (.const (Value.slice none 0 0))⟩,
⟨some 7, none, false, .mov (.const (.int .i64 2))⟩]) .ret) .skip)) (.seq (.ops false [
⟨some 8, none, false, .mov (.const (Value.slice none 0 0))⟩]) (.seq (.seq (.ops false [
⟨some 9, none, false, .mov (.const (.int .i64 0))⟩]) (.block 0 (.loop (.seq (.seq (.ops false [
⟨some 21, none, false, .mov (.tmp 9)⟩,
⟨some 22, none, false, .mov (.tmp 1)⟩,
⟨some 23, none, false, .len .sl (.tmp 22)⟩,
⟨some 24, none, false, .bin .lss (.tmp 21) (.tmp 23)⟩]) (.cond (.tmp 24) .skip (.exit 0))) (.seq (.block 1 (.seq (.ops false [
⟨some 10, none, false, .mov (.const (.int .i64 0))⟩]) (.seq (.seq (.ops false [
⟨some 11, none, false, .mov (.const (.int .i64 0))⟩]) (.block 2 (.loop (.seq (.seq (.ops false [
⟨some 27, none, false, .mov (.tmp 11)⟩,
⟨some 28, none, false, .mov (.tmp 0)⟩,
⟨some 29, none, false, .len .sl (.tmp 28)⟩,
⟨some 30, none, false, .bin .lss (.tmp 27) (.tmp 29)⟩]) (.cond (.tmp 30) .skip (.exit 2))) (.seq (.block 3 (.seq (.ops true [
⟨some 33, none, false, .mov (.tmp 0)⟩,
⟨some 34, none, false, .mov (.tmp 11)⟩,
⟨some 35, none, false, .ixs 5 (.tmp 33) (.tmp 34)⟩,
⟨some 36, none, false, .fad 0 (.tmp 35)⟩,
⟨some 37, none, false, .ld1 (.tmp 36)⟩,
⟨some 38, none, false, .mov (.tmp 1)⟩,
⟨some 39, none, false, .mov (.tmp 9)⟩,
⟨some 40, none, false, .ixs 5 (.tmp 38) (.tmp 39)⟩,
⟨some 41, none, false, .fad 0 (.tmp 40)⟩,
⟨some 42, none, false, .ld1 (.tmp 41)⟩,
⟨some 43, none, false, .bin .eql (.tmp 37) (.tmp 42)⟩,
⟨some 44, none, false, .mov (.tmp 43)⟩,
⟨some 45, some (44, true), false, .mov (.tmp 0)⟩,
⟨some 46, some (44, true), false, .mov (.tmp 11)⟩,
⟨some 47, some (44, true), false, .ixs 5 (.tmp 45) (.tmp 46)⟩,
⟨some 48, some (44, true), false, .fad 1 (.tmp 47)⟩,
⟨some 49, some (44, true), false, .ld1 (.tmp 48)⟩,
⟨some 50, some (44, true), false, .mov (.tmp 1)⟩,
⟨some 51, some (44, true), false, .mov (.tmp 9)⟩,
⟨some 52, some (44, true), false, .ixs 5 (.tmp 50) (.tmp 51)⟩,
⟨some 53, some (44, true), false, .fad 1 (.tmp 52)⟩,
⟨some 54, some (44, true), false, .ld1 (.tmp 53)⟩,
⟨some 55, some (44, true), false, .bin .eql (.tmp 49) (.tmp 54)⟩,
⟨some 56, none, false, .pick (.tmp 44) (.tmp 55) (.const (.bool false))⟩]) (.cond (.tmp 56) (.ops true [
⟨some 57, none, false, .mov (.tmp 2)⟩,
⟨some 58, none, false, .mov (.tmp 11)⟩,
⟨some 59, none, false, .ixs 1 (.tmp 57) (.tmp 58)⟩,
⟨some 60, none, false, .ld1 (.tmp 59)⟩,
⟨some 61, none, false, .mov (.tmp 1)⟩,
⟨some 62, none, false, .mov (.tmp 9)⟩,
⟨some 63, none, false, .ixs 5 (.tmp 61) (.tmp 62)⟩,
⟨some 64, none, false, .fad 2 (.tmp 63)⟩,
⟨some 65, none, false, .ld1 (.tmp 64)⟩,
⟨some 66, none, false, .mnx false [.tmp 60, .tmp 65]⟩,
⟨some 10, none, false, .mov (.tmp 66)⟩]) .skip))) (.ops false [
⟨some 31, none, false, .mov (.tmp 11)⟩,
⟨some 32, none, false, .bin .add (.tmp 31) (.const (.int .i64 1))⟩,
⟨some 11, none, false, .mov (.tmp 32)⟩])))))) (.ops false [
⟨some 67, none, false, .mov (.tmp 8)⟩,
⟨some 68, none, false, .mov (.tmp 10)⟩,
⟨some 69, none, false, .bld [.int .i64 0] [(0, 1, .tmp 68)]⟩,
⟨some 70, none, false, .apl 1 8 1 (.tmp 67) (.tmp 69)⟩,
⟨some 8, none, false, .mov (.tmp 70)⟩])))) (.ops false [
⟨some 25, none, false, .mov (.tmp 9)⟩,
⟨some 26, none, false, .bin .add (.tmp 25) (.const (.int .i64 1))⟩,
⟨some 9, none, false, .mov (.tmp 26)⟩])))))) (.seq (.ops false [
⟨some 71, none, false, .mov (.tmp 8)⟩,
⟨some 6, none, false, .mov (.tmp 71)⟩,
⟨some 7, none, false, .mov (.const (.int .i64 0))⟩]) .ret))))) }
theorem pr23 : promFn 0 ⟨72, [], [69]⟩ ic23 = some ip23 := by kernel_rfl
/-- bandplan/bandplanlaw34.alike, with registers -/
def ip24 : IFn := { ntmps := 56, results := [.tmp 4], code := (.seq (.ops false [
⟨some 4, none, false, .mov (.const (.bool false))⟩]) (.seq (.seq (.ops false [
⟨some 5, none, false, .mov (.const (.int .i64 0))⟩]) (.block 0 (.loop (.seq (.seq (.ops false [
⟨some 7, none, false, .mov (.tmp 5)⟩,
⟨some 8, none, false, .mov (.tmp 0)⟩,
⟨some 9, none, false, .len .sl (.tmp 8)⟩,
⟨some 10, none, false, .bin .lss (.tmp 7) (.tmp 9)⟩]) (.cond (.tmp 10) .skip (.exit 0))) (.seq (.block 1 (.seq (.ops false [
⟨some 6, none, false, .mov (.const (.int .i64 0))⟩]) (.block 2 (.loop (.seq (.seq (.ops false [
⟨some 13, none, false, .mov (.tmp 6)⟩,
⟨some 14, none, false, .mov (.tmp 1)⟩,
⟨some 15, none, false, .len .sl (.tmp 14)⟩,
⟨some 16, none, false, .bin .lss (.tmp 13) (.tmp 15)⟩]) (.cond (.tmp 16) .skip (.exit 2))) (.seq (.block 3 (.seq (.ops true [
⟨some 19, none, false, .mov (.tmp 0)⟩,
⟨some 20, none, false, .mov (.tmp 5)⟩,
⟨some 21, none, false, .ixs 5 (.tmp 19) (.tmp 20)⟩,
⟨some 22, none, false, .fad 0 (.tmp 21)⟩,
⟨some 23, none, false, .ld1 (.tmp 22)⟩,
⟨some 24, none, false, .mov (.tmp 1)⟩,
⟨some 25, none, false, .mov (.tmp 6)⟩,
⟨some 26, none, false, .ixs 5 (.tmp 24) (.tmp 25)⟩,
⟨some 27, none, false, .fad 0 (.tmp 26)⟩,
⟨some 28, none, false, .ld1 (.tmp 27)⟩,
⟨some 29, none, false, .bin .eql (.tmp 23) (.tmp 28)⟩,
⟨some 30, none, false, .mov (.tmp 29)⟩,
⟨some 31, some (30, true), false, .mov (.tmp 0)⟩,
⟨some 32, some (30, true), false, .mov (.tmp 5)⟩,
⟨some 33, some (30, true), false, .ixs 5 (.tmp 31) (.tmp 32)⟩,
⟨some 34, some (30, true), false, .fad 1 (.tmp 33)⟩,
⟨some 35, some (30, true), false, .ld1 (.tmp 34)⟩,
⟨some 36, some (30, true), false, .mov (.tmp 1)⟩,
⟨some 37, some (30, true), false, .mov (.tmp 6)⟩,
⟨some 38, some (30, true), false, .ixs 5 (.tmp 36) (.tmp 37)⟩,
⟨some 39, some (30, true), false, .fad 1 (.tmp 38)⟩,
⟨some 40, some (30, true), false, .ld1 (.tmp 39)⟩,
⟨some 41, some (30, true), false, .bin .eql (.tmp 35) (.tmp 40)⟩,
⟨some 42, none, false, .pick (.tmp 30) (.tmp 41) (.const (.bool false))⟩,
⟨some 43, none, false, .mov (.tmp 42)⟩,
⟨some 44, some (43, true), false, .mov (.tmp 0)⟩,
⟨some 45, some (43, true), false, .mov (.tmp 5)⟩,
⟨some 46, some (43, true), false, .ixs 5 (.tmp 44) (.tmp 45)⟩,
⟨some 47, some (43, true), false, .fad 3 (.tmp 46)⟩,
⟨some 48, some (43, true), false, .ld1 (.tmp 47)⟩,
⟨some 49, some (43, true), false, .mov (.tmp 1)⟩,
⟨some 50, some (43, true), false, .mov (.tmp 6)⟩,
⟨some 51, some (43, true), false, .ixs 5 (.tmp 49) (.tmp 50)⟩,
⟨some 52, some (43, true), false, .fad 3 (.tmp 51)⟩,
⟨some 53, some (43, true), false, .ld1 (.tmp 52)⟩,
⟨some 54, some (43, true), false, .bin .neq (.tmp 48) (.tmp 53)⟩,
⟨some 55, none, false, .pick (.tmp 43) (.tmp 54) (.const (.bool false))⟩]) (.cond (.tmp 55) (.seq (.ops false [
⟨some 4, none, false, .mov (.const (.bool false))⟩]) .ret) .skip))) (.ops false [
⟨some 17, none, false, .mov (.tmp 6)⟩,
⟨some 18, none, false, .bin .add (.tmp 17) (.const (.int .i64 1))⟩,
⟨some 6, none, false, .mov (.tmp 18)⟩]))))))) (.ops false [
⟨some 11, none, false, .mov (.tmp 5)⟩,
⟨some 12, none, false, .bin .add (.tmp 11) (.const (.int .i64 1))⟩,
⟨some 5, none, false, .mov (.tmp 12)⟩])))))) (.seq (.ops false [
⟨some 4, none, false, .mov (.const (.bool true))⟩]) .ret))) }
theorem pr24 : promFn 0 ⟨56, [], []⟩ ic24 = some ip24 := by kernel_rfl
/-- bandplan/demand.Total, with registers -/
def ip25 : IFn := { ntmps := 42, results := [.tmp 4, .tmp 5], code := (.seq (.ops false [
⟨some 8, none, false, .mov (.const undef)⟩,
⟨some 4, none, false, .mov (.const (Value.slice none 0 0))⟩,
⟨some 5, none, false, .mov (.const (.int .i64 0))⟩]) (.seq (.seq (.ops false [
⟨some 11, none, false, .mov (.tmp 0)⟩,
⟨some 12, none, false, .mov (.tmp 1)⟩,
⟨some 13, none, false, .call (.func 37) [.tmp 11, .tmp 12]⟩,
⟨some 14, none, false, .una .not (.tmp 13)⟩]) (.cond (.tmp 14) (.seq (.ops false [
⟨some 4, none, false, .mov (.const (Value.slice none 0 0))⟩,
⟨some 5, none, false, .mov (.const (.int .i64 2))⟩]) .ret) .skip)) (.seq (.ops false [
⟨some 15, none, false, .mov (.tmp 0)⟩,
⟨some 16, none, false, .len .sl (.tmp 15)⟩,
⟨some 17, none, false, .mks 1 8 [.int .i64 0] (.tmp 16) (.tmp 16)⟩,
⟨some 6, none, false, .mov (.tmp 17)⟩]) (.seq (.seq (.ops false [
⟨some 18, none, false, .mov (.tmp 1)⟩,
⟨some 19, none, false, .len .sl (.tmp 18)⟩,
⟨some 20, none, false, .mov (.const (.int .i64 0))⟩]) (.block 0 (.loop (.seq (.ops false [
⟨some 21, none, false, .bin .lss (.tmp 20) (.tmp 19)⟩]) (.seq (.cond (.tmp 21) .skip (.exit 0)) (.seq (.block 1 (.seq (.ops false [
⟨some 22, none, false, .ixs 4 (.tmp 18) (.tmp 20)⟩,
⟨some 23, none, false, .ldn 4 (.tmp 22)⟩,
⟨some 8, none, false, .reg [.int .i64 0, .int .i64 0, .int .i64 0, .slice none 0 0]⟩,
⟨some 8, none, false, .upd 0 4 (.tmp 8) (.tmp 23)⟩]) (.seq (.ops false [
⟨some 24, none, false, .fld 0 (some 0) (.tmp 8)⟩,
⟨some 25, none, false, .fld 3 none (.tmp 8)⟩,
⟨some 26, none, false, .len .sl (.tmp 25)⟩,
⟨some 27, none, false, .mov (.const (.int .i64 0))⟩]) (.block 2 (.loop (.seq (.ops false [
⟨some 28, none, false, .bin .lss (.tmp 27) (.tmp 26)⟩]) (.seq (.cond (.tmp 28) .skip (.exit 2)) (.seq (.block 3 (.seq (.ops false [
⟨some 29, none, false, .mov (.tmp 27)⟩,
⟨some 30, none, false, .ixs 1 (.tmp 25) (.tmp 27)⟩,
⟨some 31, none, false, .ld1 (.tmp 30)⟩,
⟨some 9, none, false, .mov (.tmp 29)⟩,
⟨some 10, none, false, .mov (.tmp 31)⟩]) (.ops false [
⟨some 32, none, false, .mov (.tmp 6)⟩,
⟨some 33, none, false, .mov (.tmp 9)⟩,
⟨some 34, none, false, .ixs 1 (.tmp 32) (.tmp 33)⟩,
⟨some 35, none, false, .ld1 (.tmp 34)⟩,
⟨some 36, none, false, .mov (.tmp 10)⟩,
⟨some 37, none, false, .bin .add (.tmp 35) (.tmp 36)⟩,
⟨some 38, none, false, .ixs 1 (.tmp 32) (.tmp 33)⟩,
⟨none, none, false, .sto 1 (.tmp 38) (.tmp 37)⟩]))) (.ops false [
⟨some 39, none, false, .bin .add (.tmp 27) (.const (.int .i64 1))⟩,
⟨some 27, none, false, .mov (.tmp 39)⟩]))))))))) (.ops false [
⟨some 40, none, false, .bin .add (.tmp 20) (.const (.int .i64 1))⟩,
⟨some 20, none, false, .mov (.tmp 40)⟩]))))))) (.seq (.ops false [
⟨some 41, none, false, .mov (.tmp 6)⟩,
⟨some 4, none, false, .mov (.tmp 41)⟩,
⟨some 5, none, false, .mov (.const (.int .i64 0))⟩]) .ret))))) }
theorem pr25 : promFn 0 ⟨42, [8], [24]⟩ ic25 = some ip25 := by kernel_rfl
/-- bandplan/product.Valid, with registers -/
def ip26 : IFn := { ntmps := 68, results := [.tmp 2], code := (.seq (.ops false [
⟨some 4, none, false, .mov (.const undef)⟩,
⟨some 2, none, false, .mov (.const (.bool false))⟩]) (.seq (.seq (.ops false [
⟨some 5, none, false, .mov (.tmp 0)⟩,
⟨some 6, none, false, .len .sl (.tmp 5)⟩,
⟨some 7, none, false, .mov (.const (.int .i64 0))⟩]) (.block 0 (.loop (.seq (.ops false [
⟨some 8, none, false, .bin .lss (.tmp 7) (.tmp 6)⟩]) (.seq (.cond (.tmp 8) .skip (.exit 0)) (.seq (.block 1 (.seq (.ops false [
⟨some 9, none, false, .mov (.tmp 7)⟩,
⟨some 10, none, false, .ixs 5 (.tmp 5) (.tmp 7)⟩,
⟨some 11, none, false, .ldn 5 (.tmp 10)⟩,
⟨some 4, none, false, .reg [.int .i64 0, .int .i64 0, .int .i64 0, .int .i64 0, .int .i64 0]⟩,
⟨some 3, none, false, .mov (.tmp 9)⟩,
⟨some 4, none, false, .upd 0 5 (.tmp 4) (.tmp 11)⟩]) (.seq (.seq (.ops false [
⟨some 12, none, false, .fld 0 (some 0) (.tmp 4)⟩,
⟨some 13, none, false, .fld 0 none (.tmp 4)⟩,
⟨some 14, none, false, .call (.func 38) [.tmp 13, .const (.int .i64 0), .const (.int .i64 63)]⟩,
⟨some 15, none, false, .una .not (.tmp 14)⟩,
⟨some 16, none, false, .mov (.tmp 15)⟩,
⟨some 17, some (16, false), false, .fld 0 (some 0) (.tmp 4)⟩,
⟨some 18, some (16, false), false, .fld 1 none (.tmp 4)⟩,
⟨some 19, some (16, false), false, .call (.func 38) [.tmp 18, .const (.int .i64 1), .const (.int .i64 2)]⟩,
⟨some 20, some (16, false), false, .una .not (.tmp 19)⟩,
⟨some 21, none, false, .pick (.tmp 16) (.const (.bool true)) (.tmp 20)⟩,
⟨some 22, none, false, .mov (.tmp 21)⟩,
⟨some 23, some (22, false), false, .fld 0 (some 0) (.tmp 4)⟩,
⟨some 24, some (22, false), false, .fld 2 none (.tmp 4)⟩,
⟨some 25, some (22, false), false, .call (.func 38) [.tmp 24, .const (.int .i64 1), .const (.int .i64 12)]⟩,
⟨some 26, some (22, false), false, .una .not (.tmp 25)⟩,
⟨some 27, none, false, .pick (.tmp 22) (.const (.bool true)) (.tmp 26)⟩,
⟨some 28, none, false, .mov (.tmp 27)⟩,
⟨some 29, some (28, false), false, .fld 0 (some 0) (.tmp 4)⟩,
⟨some 30, some (28, false), false, .fld 3 none (.tmp 4)⟩,
⟨some 31, some (28, false), false, .call (.func 38) [.tmp 30, .const (.int .i64 1), .const (.int .i64 100000)]⟩,
⟨some 32, some (28, false), false, .una .not (.tmp 31)⟩,
⟨some 33, none, false, .pick (.tmp 28) (.const (.bool true)) (.tmp 32)⟩,
⟨some 34, none, false, .mov (.tmp 33)⟩,
⟨some 35, some (34, false), false, .fld 0 (some 0) (.tmp 4)⟩,
⟨some 36, some (34, false), false, .fld 4 none (.tmp 4)⟩,
⟨some 37, some (34, false), false, .call (.func 38) [.tmp 36, .const (.int .i64 0), .const (.int .i64 549755813888)]⟩,
⟨some 38, some (34, false), false, .una .not (.tmp 37)⟩,
⟨some 39, none, false, .pick (.tmp 34) (.const (.bool true)) (.tmp 38)⟩]) (.cond (.tmp 39) (.seq (.ops false [
⟨some 2, none, false, .mov (.const (.bool false))⟩]) .ret) .skip)) (.seq (.ops true [
⟨some 40, none, false, .mov (.tmp 3)⟩,
⟨some 41, none, false, .bin .gtr (.tmp 40) (.const (.int .i64 0))⟩,
⟨some 42, none, false, .mov (.tmp 41)⟩,
⟨some 43, some (42, true), false, .mov (.tmp 0)⟩,
⟨some 44, some (42, true), false, .mov (.tmp 3)⟩,
⟨some 45, some (42, true), false, .bin .sub (.tmp 44) (.const (.int .i64 1))⟩,
⟨some 46, some (42, true), false, .ixs 5 (.tmp 43) (.tmp 45)⟩,
⟨some 47, some (42, true), false, .fad 0 (.tmp 46)⟩,
⟨some 48, some (42, true), false, .ld1 (.tmp 47)⟩,
⟨some 49, some (42, true), false, .fld 0 (some 0) (.tmp 4)⟩,
⟨some 50, some (42, true), false, .fld 0 none (.tmp 4)⟩,
⟨some 51, some (42, true), false, .bin .eql (.tmp 48) (.tmp 50)⟩,
⟨some 52, none, false, .pick (.tmp 42) (.tmp 51) (.const (.bool false))⟩,
⟨some 53, none, false, .mov (.tmp 52)⟩,
⟨some 54, some (53, true), false, .mov (.tmp 0)⟩,
⟨some 55, some (53, true), false, .mov (.tmp 3)⟩,
⟨some 56, some (53, true), false, .bin .sub (.tmp 55) (.const (.int .i64 1))⟩,
⟨some 57, some (53, true), false, .ixs 5 (.tmp 54) (.tmp 56)⟩,
⟨some 58, some (53, true), false, .fad 2 (.tmp 57)⟩,
⟨some 59, some (53, true), false, .ld1 (.tmp 58)⟩,
⟨some 60, some (53, true), false, .fld 0 (some 0) (.tmp 4)⟩,
⟨some 61, some (53, true), false, .fld 2 none (.tmp 4)⟩,
⟨some 62, some (53, true), false, .bin .add (.tmp 59) (.tmp 61)⟩,
⟨some 63, some (53, true), false, .bin .gtr (.tmp 62) (.const (.int .i64 12))⟩,
⟨some 64, none, false, .pick (.tmp 53) (.tmp 63) (.const (.bool false))⟩]) (.cond (.tmp 64) (.seq (.ops false [
⟨some 2, none, false, .mov (.const (.bool false))⟩]) .ret) .skip))))) (.ops false [
⟨some 65, none, false, .bin .add (.tmp 7) (.const (.int .i64 1))⟩,
⟨some 7, none, false, .mov (.tmp 65)⟩]))))))) (.seq (.ops false [
⟨some 66, none, false, .mov (.tmp 0)⟩,
⟨some 67, none, false, .call (.func 39) [.tmp 66, .func 40]⟩,
⟨some 2, none, false, .mov (.tmp 67)⟩]) .ret))) }
theorem pr26 : promFn 0 ⟨68, [4], [12, 17, 23, 29, 35, 49, 60]⟩ ic26 = some ip26 := by kernel_rfl
/-- bandplan/bandplanref33.Valid, with registers -/
def ip27 : IFn := { ntmps := 98, results := [.tmp 2], code := (.seq (.ops false [
⟨some 4, none, false, .mov (.const undef)⟩,
⟨some 5, none, false, .mov (.const undef)⟩,
⟨some 2, none, false, .mov (.const (.bool false))⟩]) (.seq (.seq (.ops false [
⟨some 3, none, false, .mov (.const (.int .i64 0))⟩]) (.block 0 (.loop (.seq (.seq (.ops false [
⟨some 6, none, false, .mov (.tmp 3)⟩,
⟨some 7, none, false, .mov (.tmp 0)⟩,
⟨some 8, none, false, .len .sl (.tmp 7)⟩,
⟨some 9, none, false, .bin .lss (.tmp 6) (.tmp 8)⟩]) (.cond (.tmp 9) .skip (.exit 0))) (.seq (.block 1 (.seq (.ops false [
⟨some 12, none, false, .mov (.tmp 0)⟩,
⟨some 13, none, false, .mov (.tmp 3)⟩,
⟨some 14, none, false, .ixs 5 (.tmp 12) (.tmp 13)⟩,
⟨some 15, none, false, .ldn 5 (.tmp 14)⟩,
⟨some 4, none, false, .reg [.int .i64 0, .int .i64 0, .int .i64 0, .int .i64 0, .int .i64 0]⟩,
⟨some 4, none, false, .upd 0 5 (.tmp 4) (.tmp 15)⟩]) (.seq (.seq (.ops false [
⟨some 16, none, false, .fld 0 (some 0) (.tmp 4)⟩,
⟨some 17, none, false, .fld 0 none (.tmp 4)⟩,
⟨some 18, none, false, .bin .lss (.tmp 17) (.const (.int .i64 0))⟩,
⟨some 19, none, false, .mov (.tmp 18)⟩,
⟨some 20, some (19, false), false, .fld 0 (some 0) (.tmp 4)⟩,
⟨some 21, some (19, false), false, .fld 0 none (.tmp 4)⟩,
⟨some 22, some (19, false), false, .bin .gtr (.tmp 21) (.const (.int .i64 63))⟩,
⟨some 23, none, false, .pick (.tmp 19) (.const (.bool true)) (.tmp 22)⟩,
⟨some 24, none, false, .mov (.tmp 23)⟩,
⟨some 25, some (24, false), false, .fld 0 (some 0) (.tmp 4)⟩,
⟨some 26, some (24, false), false, .fld 1 none (.tmp 4)⟩,
⟨some 27, some (24, false), false, .bin .lss (.tmp 26) (.const (.int .i64 1))⟩,
⟨some 28, none, false, .pick (.tmp 24) (.const (.bool true)) (.tmp 27)⟩,
⟨some 29, none, false, .mov (.tmp 28)⟩,
⟨some 30, some (29, false), false, .fld 0 (some 0) (.tmp 4)⟩,
⟨some 31, some (29, false), false, .fld 1 none (.tmp 4)⟩,
⟨some 32, some (29, false), false, .bin .gtr (.tmp 31) (.const (.int .i64 2))⟩,
⟨some 33, none, false, .pick (.tmp 29) (.const (.bool true)) (.tmp 32)⟩,
⟨some 34, none, false, .mov (.tmp 33)⟩,
⟨some 35, some (34, false), false, .fld 0 (some 0) (.tmp 4)⟩,
⟨some 36, some (34, false), false, .fld 2 none (.tmp 4)⟩,
⟨some 37, some (34, false), false, .bin .lss (.tmp 36) (.const (.int .i64 1))⟩,
⟨some 38, none, false, .pick (.tmp 34) (.const (.bool true)) (.tmp 37)⟩,
⟨some 39, none, false, .mov (.tmp 38)⟩,
⟨some 40, some (39, false), false, .fld 0 (some 0) (.tmp 4)⟩,
⟨some 41, some (39, false), false, .fld 2 none (.tmp 4)⟩,
⟨some 42, some (39, false), false, .bin .gtr (.tmp 41) (.const (.int .i64 12))⟩,
⟨some 43, none, false, .pick (.tmp 39) (.const (.bool true)) (.tmp 42)⟩,
⟨some 44, none, false, .mov (.tmp 43)⟩,
⟨some 45, some (44, false), false, .fld 0 (some 0) (.tmp 4)⟩,
⟨some 46, some (44, false), false, .fld 3 none (.tmp 4)⟩,
⟨some 47, some (44, false), false, .bin .lss (.tmp 46) (.const (.int .i64 1))⟩,
⟨some 48, none, false, .pick (.tmp 44) (.const (.bool true)) (.tmp 47)⟩,
⟨some 49, none, false, .mov (.tmp 48)⟩,
⟨some 50, some (49, false), false, .fld 0 (some 0) (.tmp 4)⟩,
⟨some 51, some (49, false), false, .fld 3 none (.tmp 4)⟩,
⟨some 52, some (49, false), false, .bin .gtr (.tmp 51) (.const (.int .i64 100000))⟩,
⟨some 53, none, false, .pick (.tmp 49) (.const (.bool true)) (.tmp 52)⟩,
⟨some 54, none, false, .mov (.tmp 53)⟩,
⟨some 55, some (54, false), false, .fld 0 (some 0) (.tmp 4)⟩,
⟨some 56, some (54, false), false, .fld 4 none (.tmp 4)⟩,
⟨some 57, some (54, false), false, .bin .lss (.tmp 56) (.const (.int .i64 0))⟩,
⟨some 58, none, false, .pick (.tmp 54) (.const (.bool true)) (.tmp 57)⟩,
⟨some 59, none, false, .mov (.tmp 58)⟩,
⟨some 60, some (59, false), false, .fld 0 (some 0) (.tmp 4)⟩,
⟨some 61, some (59, false), false, .fld 4 none (.tmp 4)⟩,
⟨some 62, some (59, false), false, .bin .gtr (.tmp 61) (.const (.int .i64 549755813888))⟩,
⟨some 63, none, false, .pick (.tmp 59) (.const (.bool true)) (.tmp 62)⟩]) (.cond (.tmp 63) (.seq (.ops false [
⟨some 2, none, false, .mov (.const (.bool false))⟩]) .ret) .skip)) (.seq (.ops false [
⟨some 64, none, false, .mov (.tmp 3)⟩,
⟨some 65, none, false, .bin .gtr (.tmp 64) (.const (.int .i64 0))⟩]) (.cond (.tmp 65) (.seq (.ops false [
⟨some 66, none, false, .mov (.tmp 0)⟩,
⟨some 67, none, false, .mov (.tmp 3)⟩,
⟨some 68, none, false, .bin .sub (.tmp 67) (.const (.int .i64 1))⟩,
⟨some 69, none, false, .ixs 5 (.tmp 66) (.tmp 68)⟩,
⟨some 70, none, false, .ldn 5 (.tmp 69)⟩,
⟨some 5, none, false, .reg [.int .i64 0, .int .i64 0, .int .i64 0, .int .i64 0, .int .i64 0]⟩,
⟨some 5, none, false, .upd 0 5 (.tmp 5) (.tmp 70)⟩]) (.seq (.ops false [
⟨some 71, none, false, .fld 0 (some 0) (.tmp 4)⟩,
⟨some 72, none, false, .fld 0 none (.tmp 4)⟩,
⟨some 73, none, false, .fld 0 (some 0) (.tmp 5)⟩,
⟨some 74, none, false, .fld 0 none (.tmp 5)⟩,
⟨some 75, none, false, .bin .lss (.tmp 72) (.tmp 74)⟩,
⟨some 76, none, false, .mov (.tmp 75)⟩,
⟨some 77, some (76, false), false, .fld 0 (some 0) (.tmp 4)⟩,
⟨some 78, some (76, false), false, .fld 0 none (.tmp 4)⟩,
⟨some 79, some (76, false), false, .fld 0 (some 0) (.tmp 5)⟩,
⟨some 80, some (76, false), false, .fld 0 none (.tmp 5)⟩,
⟨some 81, some (76, false), false, .bin .eql (.tmp 78) (.tmp 80)⟩,
⟨some 82, some (76, false), false, .mov (.tmp 81)⟩,
⟨some 83, some (82, true), false, .fld 0 (some 0) (.tmp 4)⟩,
⟨some 84, some (82, true), false, .fld 1 none (.tmp 4)⟩,
⟨some 85, some (82, true), false, .fld 0 (some 0) (.tmp 5)⟩,
⟨some 86, some (82, true), false, .fld 1 none (.tmp 5)⟩,
⟨some 87, some (82, true), false, .bin .leq (.tmp 84) (.tmp 86)⟩,
⟨some 88, some (82, true), false, .mov (.tmp 87)⟩,
⟨some 89, some (88, false), false, .fld 0 (some 0) (.tmp 4)⟩,
⟨some 90, some (88, false), false, .fld 2 none (.tmp 4)⟩,
⟨some 91, some (88, false), false, .fld 0 (some 0) (.tmp 5)⟩,
⟨some 92, some (88, false), false, .fld 2 none (.tmp 5)⟩,
⟨some 93, some (88, false), false, .bin .add (.tmp 90) (.tmp 92)⟩,
⟨some 94, some (88, false), false, .bin .gtr (.tmp 93) (.const (.int .i64 12))⟩,
⟨some 95, some (82, true), false, .pick (.tmp 88) (.const (.bool true)) (.tmp 94)⟩,
⟨some 96, some (76, false), false, .pick (.tmp 82) (.tmp 95) (.const (.bool false))⟩,
⟨some 97, none, false, .pick (.tmp 76) (.const (.bool true)) (.tmp 96)⟩]) (.cond (.tmp 97) (.seq (.ops false [
⟨some 2, none, false, .mov (.const (.bool false))⟩]) .ret) .skip))) .skip))))) (.ops false [
⟨some 10, none, false, .mov (.tmp 3)⟩,
⟨some 11, none, false, .bin .add (.tmp 10) (.const (.int .i64 1))⟩,
⟨some 3, none, false, .mov (.tmp 11)⟩])))))) (.seq (.ops false [
⟨some 2, none, false, .mov (.const (.bool true))⟩]) .ret))) }
theorem pr27 : promFn 0 ⟨98, [4, 5], [16, 20, 25, 30, 35, 40, 45, 50, 55, 60, 71, 73, 77, 79, 83, 85, 89, 91]⟩ ic27 = some ip27 := by kernel_rfl
/-- bandplan/demand.sum, with registers -/
def ip28 : IFn := { ntmps := 24, results := [.tmp 4], code := (.seq (.ops false [
⟨some 4, none, false, .mov (.const (.int .i64 0))⟩]) (.seq (.ops false [
⟨some 5, none, false, .mov (.const (.int .i64 0))⟩]) (.seq (.seq (.ops false [
⟨some 8, none, false, .mov (.tmp 0)⟩,
⟨some 9, none, false, .len .sl (.tmp 8)⟩,
⟨some 10, none, false, .mov (.const (.int .i64 0))⟩]) (.block 0 (.loop (.seq (.ops false [
⟨some 11, none, false, .bin .lss (.tmp 10) (.tmp 9)⟩]) (.seq (.cond (.tmp 11) .skip (.exit 0)) (.seq (.block 1 (.seq (.ops false [
⟨some 12, none, false, .mov (.tmp 10)⟩,
⟨some 13, none, false, .ixs 1 (.tmp 8) (.tmp 10)⟩,
⟨some 14, none, false, .ld1 (.tmp 13)⟩,
⟨some 6, none, false, .mov (.tmp 12)⟩,
⟨some 7, none, false, .mov (.tmp 14)⟩]) (.ops false [
⟨some 15, none, false, .mov (.tmp 5)⟩,
⟨some 16, none, false, .mov (.tmp 7)⟩,
⟨some 17, none, false, .mov (.tmp 1)⟩,
⟨some 18, none, false, .mov (.tmp 6)⟩,
⟨some 19, none, false, .call (.tmp 17) [.tmp 18]⟩,
⟨some 20, none, false, .bin .mul (.tmp 16) (.tmp 19)⟩,
⟨some 21, none, false, .bin .add (.tmp 15) (.tmp 20)⟩,
⟨some 5, none, false, .mov (.tmp 21)⟩]))) (.ops false [
⟨some 22, none, false, .bin .add (.tmp 10) (.const (.int .i64 1))⟩,
⟨some 10, none, false, .mov (.tmp 22)⟩]))))))) (.seq (.ops false [
⟨some 23, none, false, .mov (.tmp 5)⟩,
⟨some 4, none, false, .mov (.tmp 23)⟩]) .ret)))) }
theorem pr28 : promFn 0 ⟨24, [], []⟩ ic28 = some ip28 := by kernel_rfl
/-- bandplan/demand.Units$1, with registers -/
def ip29 : IFn := { ntmps := 9, results := [.tmp 3], code := (.seq (.ops false [
⟨some 3, none, false, .mov (.const (.int .i64 0))⟩]) (.seq (.ops false [
⟨some 4, none, false, .ld1 (.tmp 1)⟩,
⟨some 5, none, false, .mov (.tmp 0)⟩,
⟨some 6, none, false, .ixs 5 (.tmp 4) (.tmp 5)⟩,
⟨some 7, none, false, .fad 3 (.tmp 6)⟩,
⟨some 8, none, false, .ld1 (.tmp 7)⟩,
⟨some 3, none, false, .mov (.tmp 8)⟩]) .ret)) }
theorem pr29 : promFn 0 ⟨9, [], []⟩ ic29 = some ip29 := by kernel_rfl
/-- bandplan/bandplanref34.Sum, with registers -/
def ip30 : IFn := { ntmps := 31, results := [.tmp 4], code := (.seq (.ops false [
⟨some 4, none, false, .mov (.const (.int .i64 0))⟩]) (.seq (.ops false [
⟨some 5, none, false, .mov (.const (.int .i64 0))⟩]) (.seq (.seq (.ops false [
⟨some 6, none, false, .mov (.const (.int .i64 0))⟩]) (.block 0 (.loop (.seq (.seq (.ops false [
⟨some 7, none, false, .mov (.tmp 6)⟩,
⟨some 8, none, false, .mov (.tmp 0)⟩,
⟨some 9, none, false, .len .sl (.tmp 8)⟩,
⟨some 10, none, false, .bin .lss (.tmp 7) (.tmp 9)⟩,
⟨some 11, none, false, .mov (.tmp 10)⟩,
⟨some 12, some (11, true), false, .mov (.tmp 6)⟩,
⟨some 13, some (11, true), false, .mov (.tmp 1)⟩,
⟨some 14, some (11, true), false, .len .sl (.tmp 13)⟩,
⟨some 15, some (11, true), false, .bin .lss (.tmp 12) (.tmp 14)⟩,
⟨some 16, none, false, .pick (.tmp 11) (.tmp 15) (.const (.bool false))⟩]) (.cond (.tmp 16) .skip (.exit 0))) (.seq (.block 1 (.ops true [
⟨some 19, none, false, .mov (.tmp 5)⟩,
⟨some 20, none, false, .mov (.tmp 0)⟩,
⟨some 21, none, false, .mov (.tmp 6)⟩,
⟨some 22, none, false, .ixs 1 (.tmp 20) (.tmp 21)⟩,
⟨some 23, none, false, .ld1 (.tmp 22)⟩,
⟨some 24, none, false, .mov (.tmp 1)⟩,
⟨some 25, none, false, .mov (.tmp 6)⟩,
⟨some 26, none, false, .ixs 1 (.tmp 24) (.tmp 25)⟩,
⟨some 27, none, false, .ld1 (.tmp 26)⟩,
⟨some 28, none, false, .bin .mul (.tmp 23) (.tmp 27)⟩,
⟨some 29, none, false, .bin .add (.tmp 19) (.tmp 28)⟩,
⟨some 5, none, false, .mov (.tmp 29)⟩])) (.ops false [
⟨some 17, none, false, .mov (.tmp 6)⟩,
⟨some 18, none, false, .bin .add (.tmp 17) (.const (.int .i64 1))⟩,
⟨some 6, none, false, .mov (.tmp 18)⟩])))))) (.seq (.ops false [
⟨some 30, none, false, .mov (.tmp 5)⟩,
⟨some 4, none, false, .mov (.tmp 30)⟩]) .ret)))) }
theorem pr30 : promFn 0 ⟨31, [], []⟩ ic30 = some ip30 := by kernel_rfl
/-- bandplan/bandplanref34.Weights, with registers -/
def ip31 : IFn := { ntmps := 20, results := [.tmp 2], code := (.seq (.ops false [
⟨some 2, none, false, .mov (.const (Value.slice none 0 0))⟩]) (.seq (.ops false [
⟨some 3, none, false, .mov (.const (Value.slice none 0 0))⟩]) (.seq (.seq (.ops false [
⟨some 4, none, false, .mov (.const (.int .i64 0))⟩]) (.block 0 (.loop (.seq (.seq (.ops false [
⟨some 5, none, false, .mov (.tmp 4)⟩,
⟨some 6, none, false, .mov (.tmp 0)⟩,
⟨some 7, none, false, .len .sl (.tmp 6)⟩,
⟨some 8, none, false, .bin .lss (.tmp 5) (.tmp 7)⟩]) (.cond (.tmp 8) .skip (.exit 0))) (.seq (.block 1 (.ops false [
⟨some 11, none, false, .mov (.tmp 3)⟩,
⟨some 12, none, false, .mov (.tmp 0)⟩,
⟨some 13, none, false, .mov (.tmp 4)⟩,
⟨some 14, none, false, .ixs 5 (.tmp 12) (.tmp 13)⟩,
⟨some 15, none, false, .fad 3 (.tmp 14)⟩,
⟨some 16, none, false, .ld1 (.tmp 15)⟩,
⟨some 17, none, false, .bld [.int .i64 0] [(0, 1, .tmp 16)]⟩,
⟨some 18, none, false, .apl 1 8 1 (.tmp 11) (.tmp 17)⟩,
⟨some 3, none, false, .mov (.tmp 18)⟩])) (.ops false [
⟨some 9, none, false, .mov (.tmp 4)⟩,
⟨some 10, none, false, .bin .add (.tmp 9) (.const (.int .i64 1))⟩,
⟨some 4, none, false, .mov (.tmp 10)⟩])))))) (.seq (.ops false [
⟨some 19, none, false, .mov (.tmp 3)⟩,
⟨some 2, none, false, .mov (.tmp 19)⟩]) .ret)))) }
theorem pr31 : promFn 0 ⟨20, [], [17]⟩ ic31 = some ip31 := by kernel_rfl
/-- bandplan/demand.Cost$1, with registers -/
def ip32 : IFn := { ntmps := 8, results := [.tmp 3], code := (.seq (.ops false [
⟨some 3, none, false, .mov (.const (.int .i64 0))⟩]) (.seq (.ops false [
⟨some 4, none, false, .ld1 (.tmp 1)⟩,
⟨some 5, none, false, .mov (.tmp 0)⟩,
⟨some 6, none, false, .ixs 1 (.tmp 4) (.tmp 5)⟩,
⟨some 7, none, false, .ld1 (.tmp 6)⟩,
⟨some 3, none, false, .mov (.tmp 7)⟩]) .ret)) }
theorem pr32 : promFn 0 ⟨8, [], []⟩ ic32 = some ip32 := by kernel_rfl
/-- bandplan/bandplanref34.Prices, with registers -/
def ip33 : IFn := { ntmps := 28, results := [.tmp 4], code := (.seq (.ops false [
⟨some 4, none, false, .mov (.const (.bool false))⟩]) (.seq (.seq (.ops false [
⟨some 5, none, false, .mov (.const (.int .i64 0))⟩]) (.block 0 (.loop (.seq (.seq (.ops false [
⟨some 6, none, false, .mov (.tmp 5)⟩,
⟨some 7, none, false, .mov (.tmp 0)⟩,
⟨some 8, none, false, .len .sl (.tmp 7)⟩,
⟨some 9, none, false, .bin .lss (.tmp 6) (.tmp 8)⟩]) (.cond (.tmp 9) .skip (.exit 0))) (.seq (.block 1 (.seq (.ops false [
⟨some 12, none, false, .mov (.tmp 0)⟩,
⟨some 13, none, false, .mov (.tmp 5)⟩,
⟨some 14, none, false, .ixs 1 (.tmp 12) (.tmp 13)⟩,
⟨some 15, none, false, .ld1 (.tmp 14)⟩,
⟨some 16, none, false, .bin .lss (.tmp 15) (.const (.int .i64 0))⟩,
⟨some 17, none, false, .mov (.tmp 16)⟩,
⟨some 18, some (17, false), false, .mov (.tmp 0)⟩,
⟨some 19, some (17, false), false, .mov (.tmp 5)⟩,
⟨some 20, some (17, false), false, .ixs 1 (.tmp 18) (.tmp 19)⟩,
⟨some 21, some (17, false), false, .ld1 (.tmp 20)⟩,
⟨some 22, some (17, false), false, .bin .gtr (.tmp 21) (.const (.int .i64 549755813888))⟩,
⟨some 23, none, false, .pick (.tmp 17) (.const (.bool true)) (.tmp 22)⟩]) (.cond (.tmp 23) (.seq (.ops false [
⟨some 4, none, false, .mov (.const (.bool false))⟩]) .ret) .skip))) (.ops false [
⟨some 10, none, false, .mov (.tmp 5)⟩,
⟨some 11, none, false, .bin .add (.tmp 10) (.const (.int .i64 1))⟩,
⟨some 5, none, false, .mov (.tmp 11)⟩])))))) (.seq (.ops false [
⟨some 24, none, false, .mov (.tmp 0)⟩,
⟨some 25, none, false, .len .sl (.tmp 24)⟩,
⟨some 26, none, false, .mov (.tmp 1)⟩,
⟨some 27, none, false, .bin .eql (.tmp 25) (.tmp 26)⟩,
⟨some 4, none, false, .mov (.tmp 27)⟩]) .ret))) }
theorem pr33 : promFn 0 ⟨28, [], []⟩ ic33 = some ip33 := by kernel_rfl
/-- slices.ContainsFunc[[]int,int], with registers -/
def ip34 : IFn := { ntmps := 9, results := [.tmp 4], code := (.seq (.ops false [
⟨some 4, none, false, .mov (.const (.bool false))⟩]) (.seq (.ops false [
⟨some 5, none, false, .mov (.tmp 0)⟩,
⟨some 6, none, false, .mov (.tmp 1)⟩,
⟨some 7, none, false, .call (.func 43) [.tmp 5, .tmp 6]⟩,
⟨some 8, none, false, .bin .geq (.tmp 7) (.const (.int .i64 0))⟩,
⟨some 4, none, false, .mov (.tmp 8)⟩]) .ret)) }
theorem pr34 : promFn 0 ⟨9, [], []⟩ ic34 = some ip34 := by kernel_rfl
/-- bandplan/demand.Excess$1, with registers -/
def ip35 : IFn := { ntmps := 9, results := [.tmp 2], code := (.seq (.ops false [
⟨some 2, none, false, .mov (.const (.bool false))⟩]) (.seq (.ops false [
⟨some 3, none, false, .mov (.tmp 0)⟩,
⟨some 4, none, false, .bin .lss (.tmp 3) (.const (.int .i64 0))⟩,
⟨some 5, none, false, .mov (.tmp 4)⟩,
⟨some 6, some (5, false), false, .mov (.tmp 0)⟩,
⟨some 7, some (5, false), false, .bin .gtr (.tmp 6) (.const (.int .i64 384))⟩,
⟨some 8, none, false, .pick (.tmp 5) (.const (.bool true)) (.tmp 7)⟩,
⟨some 2, none, false, .mov (.tmp 8)⟩]) .ret)) }
theorem pr35 : promFn 0 ⟨9, [], []⟩ ic35 = some ip35 := by kernel_rfl
/-- slices.Clone[[]int,int], with registers -/
def ip36 : IFn := { ntmps := 8, results := [.tmp 2], code := (.seq (.ops false [
⟨some 2, none, false, .mov (.const (Value.slice none 0 0))⟩]) (.seq (.seq (.ops false [
⟨some 3, none, false, .mov (.tmp 0)⟩,
⟨some 4, none, false, .eq .sli false (.tmp 3) (.const (Value.slice none 0 0))⟩]) (.cond (.tmp 4) (.seq (.ops false [
⟨some 2, none, false, .mov (.const (Value.slice none 0 0))⟩]) .ret) .skip)) (.seq (.ops false [
⟨some 5, none, false, .bsl 0 [] []⟩,
⟨some 6, none, false, .mov (.tmp 0)⟩,
⟨some 7, none, false, .app 1 8 (.tmp 5) (.tmp 6)⟩,
⟨some 2, none, false, .mov (.tmp 7)⟩]) .ret))) }
theorem pr36 : promFn 0 ⟨8, [], []⟩ ic36 = some ip36 := by kernel_rfl
/-- bandplan/demand.ValidBidders, with registers -/
def ip37 : IFn := { ntmps := 34, results := [.tmp 4], code := (.seq (.ops false [
⟨some 7, none, false, .mov (.const undef)⟩,
⟨some 4, none, false, .mov (.const (.bool false))⟩]) (.seq (.ops false [
⟨some 5, none, false, .mov (.const (.int .i64 (-1)))⟩]) (.seq (.seq (.ops false [
⟨some 8, none, false, .mov (.tmp 1)⟩,
⟨some 9, none, false, .len .sl (.tmp 8)⟩,
⟨some 10, none, false, .mov (.const (.int .i64 0))⟩]) (.block 0 (.loop (.seq (.ops false [
⟨some 11, none, false, .bin .lss (.tmp 10) (.tmp 9)⟩]) (.seq (.cond (.tmp 11) .skip (.exit 0)) (.seq (.block 1 (.seq (.ops false [
⟨some 12, none, false, .ixs 4 (.tmp 8) (.tmp 10)⟩,
⟨some 13, none, false, .ldn 4 (.tmp 12)⟩,
⟨some 7, none, false, .reg [.int .i64 0, .int .i64 0, .int .i64 0, .slice none 0 0]⟩,
⟨some 7, none, false, .upd 0 4 (.tmp 7) (.tmp 13)⟩]) (.seq (.seq (.ops false [
⟨some 14, none, false, .fld 0 (some 0) (.tmp 7)⟩,
⟨some 15, none, false, .fld 0 none (.tmp 7)⟩,
⟨some 16, none, false, .mov (.tmp 5)⟩,
⟨some 17, none, false, .bin .leq (.tmp 15) (.tmp 16)⟩,
⟨some 18, none, false, .mov (.tmp 17)⟩,
⟨some 19, some (18, false), false, .fld 0 (some 0) (.tmp 7)⟩,
⟨some 20, some (18, false), false, .fld 0 none (.tmp 7)⟩,
⟨some 21, some (18, false), false, .bin .geq (.tmp 20) (.const (.int .i64 32))⟩,
⟨some 22, none, false, .pick (.tmp 18) (.const (.bool true)) (.tmp 21)⟩,
⟨some 23, none, false, .mov (.tmp 22)⟩,
⟨some 24, some (23, false), false, .mov (.tmp 0)⟩,
⟨some 25, some (23, false), false, .fld 0 (some 4) (.tmp 7)⟩,
⟨some 26, some (23, false), false, .call (.func 44) [.tmp 24, .tmp 25]⟩,
⟨some 27, some (23, false), false, .una .not (.tmp 26)⟩,
⟨some 28, none, false, .pick (.tmp 23) (.const (.bool true)) (.tmp 27)⟩]) (.cond (.tmp 28) (.seq (.ops false [
⟨some 4, none, false, .mov (.const (.bool false))⟩]) .ret) .skip)) (.ops false [
⟨some 29, none, false, .fld 0 (some 0) (.tmp 7)⟩,
⟨some 30, none, false, .fld 0 none (.tmp 7)⟩,
⟨some 5, none, false, .mov (.tmp 30)⟩])))) (.ops false [
⟨some 31, none, false, .bin .add (.tmp 10) (.const (.int .i64 1))⟩,
⟨some 10, none, false, .mov (.tmp 31)⟩]))))))) (.seq (.ops false [
⟨some 32, none, false, .mov (.tmp 0)⟩,
⟨some 33, none, false, .call (.func 26) [.tmp 32]⟩,
⟨some 4, none, false, .mov (.tmp 33)⟩]) .ret)))) }
theorem pr37 : promFn 0 ⟨34, [7], [14, 19, 29]⟩ ic37 = some ip37 := by kernel_rfl
/-- bandplan/product.between, with registers -/
def ip38 : IFn := { ntmps := 15, results := [.tmp 6], code := (.seq (.ops false [
⟨some 6, none, false, .mov (.const (.bool false))⟩]) (.seq (.ops false [
⟨some 7, none, false, .mov (.tmp 0)⟩,
⟨some 8, none, false, .mov (.tmp 1)⟩,
⟨some 9, none, false, .bin .geq (.tmp 7) (.tmp 8)⟩,
⟨some 10, none, false, .mov (.tmp 9)⟩,
⟨some 11, some (10, true), false, .mov (.tmp 0)⟩,
⟨some 12, some (10, true), false, .mov (.tmp 2)⟩,
⟨some 13, some (10, true), false, .bin .leq (.tmp 11) (.tmp 12)⟩,
⟨some 14, none, false, .pick (.tmp 10) (.tmp 13) (.const (.bool false))⟩,
⟨some 6, none, false, .mov (.tmp 14)⟩]) .ret)) }
theorem pr38 : promFn 0 ⟨15, [], []⟩ ic38 = some ip38 := by kernel_rfl
/-- bandplan/product.rising[bandplan/api.Product], with registers -/
def ip39 : IFn := { ntmps := 24, results := [.tmp 4], code := (.seq (.ops false [
⟨some 4, none, false, .mov (.const (.bool false))⟩]) (.seq (.seq (.ops false [
⟨some 5, none, false, .mov (.const (.int .i64 1))⟩]) (.block 0 (.loop (.seq (.seq (.ops false [
⟨some 6, none, false, .mov (.tmp 5)⟩,
⟨some 7, none, false, .mov (.tmp 0)⟩,
⟨some 8, none, false, .len .sl (.tmp 7)⟩,
⟨some 9, none, false, .bin .lss (.tmp 6) (.tmp 8)⟩]) (.cond (.tmp 9) .skip (.exit 0))) (.seq (.block 1 (.seq (.ops true [
⟨some 12, none, false, .mov (.tmp 1)⟩,
⟨some 13, none, false, .mov (.tmp 0)⟩,
⟨some 14, none, false, .mov (.tmp 5)⟩,
⟨some 15, none, false, .bin .sub (.tmp 14) (.const (.int .i64 1))⟩,
⟨some 16, none, false, .ixs 5 (.tmp 13) (.tmp 15)⟩,
⟨some 17, none, false, .ldn 5 (.tmp 16)⟩,
⟨some 18, none, false, .mov (.tmp 0)⟩,
⟨some 19, none, false, .mov (.tmp 5)⟩,
⟨some 20, none, false, .ixs 5 (.tmp 18) (.tmp 19)⟩,
⟨some 21, none, false, .ldn 5 (.tmp 20)⟩,
⟨some 22, none, false, .call (.tmp 12) [.tmp 17, .tmp 21]⟩,
⟨some 23, none, false, .bin .geq (.tmp 22) (.const (.int .i64 0))⟩]) (.cond (.tmp 23) (.seq (.ops false [
⟨some 4, none, false, .mov (.const (.bool false))⟩]) .ret) .skip))) (.ops false [
⟨some 10, none, false, .mov (.tmp 5)⟩,
⟨some 11, none, false, .bin .add (.tmp 10) (.const (.int .i64 1))⟩,
⟨some 5, none, false, .mov (.tmp 11)⟩])))))) (.seq (.ops false [
⟨some 4, none, false, .mov (.const (.bool true))⟩]) .ret))) }
theorem pr39 : promFn 0 ⟨24, [], []⟩ ic39 = some ip39 := by kernel_rfl
/-- bandplan/product.Valid$1, with registers -/
def ip40 : IFn := { ntmps := 17, results := [.tmp 4], code := (.seq (.ops false [
⟨some 2, none, false, .mov (.const undef)⟩,
⟨some 3, none, false, .mov (.const undef)⟩,
⟨some 2, none, false, .regb 5 (.tmp 0)⟩,
⟨some 3, none, false, .regb 5 (.tmp 1)⟩,
⟨some 4, none, false, .mov (.const (.int .i64 0))⟩]) (.seq (.ops true [
⟨some 5, none, false, .fld 0 (some 0) (.tmp 2)⟩,
⟨some 6, none, false, .fld 0 none (.tmp 2)⟩,
⟨some 7, none, false, .fld 0 (some 0) (.tmp 3)⟩,
⟨some 8, none, false, .fld 0 none (.tmp 3)⟩,
⟨some 9, none, true, .call (.func 42) [.tmp 6, .tmp 8]⟩,
⟨some 10, none, false, .fld 0 (some 0) (.tmp 2)⟩,
⟨some 11, none, false, .fld 1 none (.tmp 2)⟩,
⟨some 12, none, false, .fld 0 (some 0) (.tmp 3)⟩,
⟨some 13, none, false, .fld 1 none (.tmp 3)⟩,
⟨some 14, none, false, .call (.func 42) [.tmp 11, .tmp 13]⟩,
⟨some 15, none, false, .bsl 2 [.int .i64 0, .int .i64 0] [(0, 1, .tmp 9), (1, 1, .tmp 14)]⟩,
⟨some 16, none, false, .call (.func 41) [.tmp 15]⟩,
⟨some 4, none, false, .mov (.tmp 16)⟩]) .ret)) }
theorem pr40 : promFn 0 ⟨17, [2, 3], [5, 7, 10, 12]⟩ ic40 = some ip40 := by kernel_rfl
/-- cmp.Or[int], with registers -/
def ip41 : IFn := { ntmps := 18, results := [.tmp 2], code := (.seq (.ops false [
⟨some 2, none, false, .mov (.const (.int .i64 0))⟩]) (.seq (.ops false [
⟨some 3, none, false, .mov (.const (.int .i64 0))⟩]) (.seq (.seq (.ops false [
⟨some 6, none, false, .mov (.tmp 0)⟩,
⟨some 7, none, false, .len .sl (.tmp 6)⟩,
⟨some 8, none, false, .mov (.const (.int .i64 0))⟩]) (.block 0 (.loop (.seq (.ops false [
⟨some 9, none, false, .bin .lss (.tmp 8) (.tmp 7)⟩]) (.seq (.cond (.tmp 9) .skip (.exit 0)) (.seq (.block 1 (.seq (.ops false [
⟨some 10, none, false, .ixs 1 (.tmp 6) (.tmp 8)⟩,
⟨some 11, none, false, .ld1 (.tmp 10)⟩,
⟨some 5, none, false, .mov (.tmp 11)⟩]) (.seq (.ops false [
⟨some 12, none, false, .mov (.tmp 5)⟩,
⟨some 13, none, false, .mov (.tmp 3)⟩,
⟨some 14, none, false, .bin .neq (.tmp 12) (.tmp 13)⟩]) (.cond (.tmp 14) (.seq (.ops false [
⟨some 15, none, false, .mov (.tmp 5)⟩,
⟨some 2, none, false, .mov (.tmp 15)⟩]) .ret) .skip)))) (.ops false [
⟨some 16, none, false, .bin .add (.tmp 8) (.const (.int .i64 1))⟩,
⟨some 8, none, false, .mov (.tmp 16)⟩]))))))) (.seq (.ops false [
⟨some 17, none, false, .mov (.tmp 3)⟩,
⟨some 2, none, false, .mov (.tmp 17)⟩]) .ret)))) }
theorem pr41 : promFn 0 ⟨18, [], []⟩ ic41 = some ip41 := by kernel_rfl
/-- cmp.Compare[int], with registers -/
def ip42 : IFn := { ntmps := 20, results := [.tmp 4], code := (.seq (.ops false [
⟨some 4, none, false, .mov (.const (.int .i64 0))⟩]) (.seq (.ops false [
⟨some 7, none, false, .mov (.tmp 0)⟩,
⟨some 8, none, false, .call (.func 45) [.tmp 7]⟩,
⟨some 5, none, false, .mov (.tmp 8)⟩]) (.seq (.ops false [
⟨some 9, none, false, .mov (.tmp 1)⟩,
⟨some 10, none, false, .call (.func 45) [.tmp 9]⟩,
⟨some 6, none, false, .mov (.tmp 10)⟩]) (.seq (.seq (.ops false [
⟨some 11, none, false, .mov (.tmp 5)⟩]) (.cond (.tmp 11) (.seq (.seq (.ops false [
⟨some 12, none, false, .mov (.tmp 6)⟩]) (.cond (.tmp 12) (.seq (.ops false [
⟨some 4, none, false, .mov (.const (.int .i64 0))⟩]) .ret) .skip)) (.seq (.ops false [
⟨some 4, none, false, .mov (.const (.int .i64 (-1)))⟩]) .ret)) .skip)) (.seq (.seq (.ops false [
⟨some 13, none, false, .mov (.tmp 6)⟩]) (.cond (.tmp 13) (.seq (.ops false [
⟨some 4, none, false, .mov (.const (.int .i64 1))⟩]) .ret) .skip)) (.seq (.seq (.ops false [
⟨some 14, none, false, .mov (.tmp 0)⟩,
⟨some 15, none, false, .mov (.tmp 1)⟩,
⟨some 16, none, false, .bin .lss (.tmp 14) (.tmp 15)⟩]) (.cond (.tmp 16) (.seq (.ops false [
⟨some 4, none, false, .mov (.const (.int .i64 (-1)))⟩]) .ret) .skip)) (.seq (.seq (.ops false [
⟨some 17, none, false, .mov (.tmp 0)⟩,
⟨some 18, none, false, .mov (.tmp 1)⟩,
⟨some 19, none, false, .bin .gtr (.tmp 17) (.tmp 18)⟩]) (.cond (.tmp 19) (.seq (.ops false [
⟨some 4, none, false, .mov (.const (.int .i64 1))⟩]) .ret) .skip)) (.seq (.ops false [
⟨some 4, none, false, .mov (.const (.int .i64 0))⟩]) .ret)))))))) }
theorem pr42 : promFn 0 ⟨20, [], []⟩ ic42 = some ip42 := by kernel_rfl
/-- slices.IndexFunc[[]int,int], with registers -/
def ip43 : IFn := { ntmps := 19, results := [.tmp 4], code := (.seq (.ops false [
⟨some 4, none, false, .mov (.const (.int .i64 0))⟩]) (.seq (.seq (.ops false [
⟨some 6, none, false, .mov (.tmp 0)⟩,
⟨some 7, none, false, .len .sl (.tmp 6)⟩,
⟨some 8, none, false, .mov (.const (.int .i64 0))⟩]) (.block 0 (.loop (.seq (.ops false [
⟨some 9, none, false, .bin .lss (.tmp 8) (.tmp 7)⟩]) (.seq (.cond (.tmp 9) .skip (.exit 0)) (.seq (.block 1 (.seq (.ops false [
⟨some 10, none, false, .mov (.tmp 8)⟩,
⟨some 5, none, false, .mov (.tmp 10)⟩]) (.seq (.ops false [
⟨some 11, none, false, .mov (.tmp 1)⟩,
⟨some 12, none, false, .mov (.tmp 0)⟩,
⟨some 13, none, false, .mov (.tmp 5)⟩,
⟨some 14, none, false, .ixs 1 (.tmp 12) (.tmp 13)⟩,
⟨some 15, none, false, .ld1 (.tmp 14)⟩,
⟨some 16, none, false, .call (.tmp 11) [.tmp 15]⟩]) (.cond (.tmp 16) (.seq (.ops false [
⟨some 17, none, false, .mov (.tmp 5)⟩,
⟨some 4, none, false, .mov (.tmp 17)⟩]) .ret) .skip)))) (.ops false [
⟨some 18, none, false, .bin .add (.tmp 8) (.const (.int .i64 1))⟩,
⟨some 8, none, false, .mov (.tmp 18)⟩]))))))) (.seq (.ops false [
⟨some 4, none, false, .mov (.const (.int .i64 (-1)))⟩]) .ret))) }
theorem pr43 : promFn 0 ⟨19, [], []⟩ ic43 = some ip43 := by kernel_rfl
/-- bandplan/demand.valid, with registers -/
def ip44 : IFn := { ntmps := 37, results := [.tmp 4], code := (.seq (.ops false [
⟨some 3, none, false, .mov (.const undef)⟩,
⟨some 3, none, false, .regb 4 (.tmp 1)⟩,
⟨some 4, none, false, .mov (.const (.bool false))⟩]) (.seq (.ops false [
⟨some 8, none, false, .mov (.tmp 0)⟩,
⟨some 9, none, false, .fld 0 (some 0) (.tmp 3)⟩,
⟨some 10, none, false, .fld 3 none (.tmp 3)⟩,
⟨some 11, none, false, .call (.func 13) [.tmp 8, .tmp 10]⟩,
⟨some 7, none, false, .mov (.tmp 11)⟩,
⟨some 12, none, false, .ext (.tmp 7) 0⟩,
⟨some 13, none, false, .ext (.tmp 7) 1⟩,
⟨some 5, none, false, .mov (.tmp 12)⟩,
⟨some 6, none, false, .mov (.tmp 13)⟩]) (.seq (.ops false [
⟨some 14, none, false, .mov (.tmp 6)⟩,
⟨some 15, none, false, .bin .eql (.tmp 14) (.const (.int .i64 0))⟩,
⟨some 16, none, false, .mov (.tmp 15)⟩,
⟨some 17, some (16, true), false, .mov (.tmp 5)⟩,
⟨some 18, some (16, true), false, .fld 0 (some 0) (.tmp 3)⟩,
⟨some 19, some (16, true), false, .fld 1 none (.tmp 3)⟩,
⟨some 20, some (16, true), false, .bin .leq (.tmp 17) (.tmp 19)⟩,
⟨some 21, none, false, .pick (.tmp 16) (.tmp 20) (.const (.bool false))⟩,
⟨some 22, none, false, .mov (.tmp 21)⟩,
⟨some 23, some (22, true), false, .fld 0 (some 0) (.tmp 3)⟩,
⟨some 24, some (22, true), false, .fld 1 none (.tmp 3)⟩,
⟨some 25, some (22, true), false, .bin .leq (.tmp 24) (.const (.int .i64 76800000))⟩,
⟨some 26, none, false, .pick (.tmp 22) (.tmp 25) (.const (.bool false))⟩,
⟨some 27, none, false, .mov (.tmp 26)⟩,
⟨some 28, some (27, true), false, .fld 0 (some 0) (.tmp 3)⟩,
⟨some 29, some (27, true), false, .fld 2 none (.tmp 3)⟩,
⟨some 30, some (27, true), false, .bin .geq (.tmp 29) (.const (.int .i64 0))⟩,
⟨some 31, none, false, .pick (.tmp 27) (.tmp 30) (.const (.bool false))⟩,
⟨some 32, none, false, .mov (.tmp 31)⟩,
⟨some 33, some (32, true), false, .fld 0 (some 0) (.tmp 3)⟩,
⟨some 34, some (32, true), false, .fld 2 none (.tmp 3)⟩,
⟨some 35, some (32, true), false, .bin .leq (.tmp 34) (.const (.int .i64 3))⟩,
⟨some 36, none, false, .pick (.tmp 32) (.tmp 35) (.const (.bool false))⟩,
⟨some 4, none, false, .mov (.tmp 36)⟩]) .ret))) }
theorem pr44 : promFn 0 ⟨37, [3], [9, 18, 23, 28, 33]⟩ ic44 = some ip44 := by kernel_rfl
/-- cmp.isNaN[int], with registers -/
def ip45 : IFn := { ntmps := 6, results := [.tmp 2], code := (.seq (.ops false [
⟨some 2, none, false, .mov (.const (.bool false))⟩]) (.seq (.ops false [
⟨some 3, none, false, .mov (.tmp 0)⟩,
⟨some 4, none, false, .mov (.tmp 0)⟩,
⟨some 5, none, false, .bin .neq (.tmp 3) (.tmp 4)⟩,
⟨some 2, none, false, .mov (.tmp 5)⟩]) .ret)) }
theorem pr45 : promFn 0 ⟨6, [], []⟩ ic45 = some ip45 := by kernel_rfl
def tab : FuncId → Option IFn
  | 3 => some ip3
  | 4 => some ip4
  | 5 => some ip5
  | 6 => some ip6
  | 7 => some ip7
  | 8 => some ip8
  | 9 => some ip9
  | 11 => some ip11
  | 12 => some ip12
  | 13 => some ip13
  | 14 => some ip14
  | 15 => some ip15
  | 16 => some ip16
  | 17 => some ip17
  | 18 => some ip18
  | 19 => some ip19
  | 20 => some ip20
  | 21 => some ip21
  | 22 => some ip22
  | 23 => some ip23
  | 24 => some ip24
  | 25 => some ip25
  | 26 => some ip26
  | 27 => some ip27
  | 28 => some ip28
  | 29 => some ip29
  | 30 => some ip30
  | 31 => some ip31
  | 32 => some ip32
  | 33 => some ip33
  | 34 => some ip34
  | 35 => some ip35
  | 36 => some ip36
  | 37 => some ip37
  | 38 => some ip38
  | 39 => some ip39
  | 40 => some ip40
  | 41 => some ip41
  | 42 => some ip42
  | 43 => some ip43
  | 44 => some ip44
  | 45 => some ip45
  | _ => none
theorem promOk : PromTab 0 tab itab := by
  intro F
  cases h : tab F with
  | some fn =>
    unfold tab at h
    split at h
    · cases h; exact ⟨ic3, _, rfl, pr3⟩
    · cases h; exact ⟨ic4, _, rfl, pr4⟩
    · cases h; exact ⟨ic5, _, rfl, pr5⟩
    · cases h; exact ⟨ic6, _, rfl, pr6⟩
    · cases h; exact ⟨ic7, _, rfl, pr7⟩
    · cases h; exact ⟨ic8, _, rfl, pr8⟩
    · cases h; exact ⟨ic9, _, rfl, pr9⟩
    · cases h; exact ⟨ic11, _, rfl, pr11⟩
    · cases h; exact ⟨ic12, _, rfl, pr12⟩
    · cases h; exact ⟨ic13, _, rfl, pr13⟩
    · cases h; exact ⟨ic14, _, rfl, pr14⟩
    · cases h; exact ⟨ic15, _, rfl, pr15⟩
    · cases h; exact ⟨ic16, _, rfl, pr16⟩
    · cases h; exact ⟨ic17, _, rfl, pr17⟩
    · cases h; exact ⟨ic18, _, rfl, pr18⟩
    · cases h; exact ⟨ic19, _, rfl, pr19⟩
    · cases h; exact ⟨ic20, _, rfl, pr20⟩
    · cases h; exact ⟨ic21, _, rfl, pr21⟩
    · cases h; exact ⟨ic22, _, rfl, pr22⟩
    · cases h; exact ⟨ic23, _, rfl, pr23⟩
    · cases h; exact ⟨ic24, _, rfl, pr24⟩
    · cases h; exact ⟨ic25, _, rfl, pr25⟩
    · cases h; exact ⟨ic26, _, rfl, pr26⟩
    · cases h; exact ⟨ic27, _, rfl, pr27⟩
    · cases h; exact ⟨ic28, _, rfl, pr28⟩
    · cases h; exact ⟨ic29, _, rfl, pr29⟩
    · cases h; exact ⟨ic30, _, rfl, pr30⟩
    · cases h; exact ⟨ic31, _, rfl, pr31⟩
    · cases h; exact ⟨ic32, _, rfl, pr32⟩
    · cases h; exact ⟨ic33, _, rfl, pr33⟩
    · cases h; exact ⟨ic34, _, rfl, pr34⟩
    · cases h; exact ⟨ic35, _, rfl, pr35⟩
    · cases h; exact ⟨ic36, _, rfl, pr36⟩
    · cases h; exact ⟨ic37, _, rfl, pr37⟩
    · cases h; exact ⟨ic38, _, rfl, pr38⟩
    · cases h; exact ⟨ic39, _, rfl, pr39⟩
    · cases h; exact ⟨ic40, _, rfl, pr40⟩
    · cases h; exact ⟨ic41, _, rfl, pr41⟩
    · cases h; exact ⟨ic42, _, rfl, pr42⟩
    · cases h; exact ⟨ic43, _, rfl, pr43⟩
    · cases h; exact ⟨ic44, _, rfl, pr44⟩
    · cases h; exact ⟨ic45, _, rfl, pr45⟩
    · cases h
  | none =>
    show itab F = none
    cases hi : itab F with
    | none => rfl
    | some fn =>
      unfold itab at hi
      split at hi <;> first | (cases hi; done) | (cases h; done)
end Go.Proofs.Ytpffdendgnkpoaa.Tab
