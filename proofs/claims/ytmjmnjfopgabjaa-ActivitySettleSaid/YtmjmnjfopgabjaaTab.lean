/- The functions that the law reaches, as instructions of the ideal machine; and the proof that they are what the given program compiles to. -/
import Derived.Test.YtmjmnjfopgabjaaChecked
import Derived.Test.YtmjmnjfopgabjaaImE
import Derived.KernelRfl
namespace Go.Proofs.Ytmjmnjfopgabjaa.Tab
open Go Go.IM
set_option maxRecDepth 100000
/-- bandplan/bandplanlaw35.ActivitySettle -/
def ic5 : IFn := { ntmps := 70, results := [.tmp 6], code := (.seq (.ops false [
    ⟨(some 4), none, false, .box 4 (.tmp 1)⟩,
    ⟨(some 6), none, false, .mov (.const (Value.bool false))⟩]) (.seq (.seq (.ops false [
    ⟨(some 12), none, false, .mov (.tmp 0)⟩,
    ⟨(some 13), none, false, .len .sl (.tmp 12)⟩,
    ⟨(some 14), none, false, .bin .gtr (.tmp 13) (.const (Value.int IntKind.i64 140))⟩,
    ⟨(some 15), none, false, .mov (.tmp 14)⟩,
    ⟨(some 16), (some (15, false)), false, .fad 3 (.tmp 4)⟩,
    ⟨(some 17), (some (15, false)), false, .ld1 (.tmp 16)⟩,
    ⟨(some 18), (some (15, false)), false, .len .sl (.tmp 17)⟩,
    ⟨(some 19), (some (15, false)), false, .bin .gtr (.tmp 18) (.const (Value.int IntKind.i64 140))⟩,
    ⟨(some 20), none, false, .pick (.tmp 15) (.const (Value.bool true)) (.tmp 19)⟩]) (.cond (.tmp 20) (.seq (.ops false [
    ⟨(some 21), none, false, .call (.func 8) []⟩,
    ⟨(some 6), none, false, .mov (.tmp 21)⟩]) .ret) .skip)) (.seq (.ops false [
    ⟨(some 23), none, false, .mov (.tmp 0)⟩,
    ⟨(some 24), none, false, .ldn 4 (.tmp 4)⟩,
    ⟨(some 25), none, false, .mov (.tmp 2)⟩,
    ⟨(some 26), none, false, .call (.func 11) [.tmp 23, .tmp 24, .tmp 25]⟩,
    ⟨(some 22), none, false, .mov (.tmp 26)⟩,
    ⟨(some 27), none, false, .ext (.tmp 22) 0⟩,
    ⟨(some 28), none, false, .ext (.tmp 22) 1⟩,
    ⟨(some 7), none, false, .new [.int .i64 0, .int .i64 0, .int .i64 0, .slice none 0 0]⟩,
    ⟨none, none, false, .sto 4 (.tmp 7) (.tmp 27)⟩,
    ⟨(some 8), none, false, .mov (.tmp 28)⟩]) (.seq (.ops false [
    ⟨(some 30), none, false, .mov (.tmp 0)⟩,
    ⟨(some 31), none, false, .ldn 4 (.tmp 4)⟩,
    ⟨(some 32), none, false, .mov (.tmp 2)⟩,
    ⟨(some 33), none, false, .call (.func 12) [.tmp 30, .tmp 31, .tmp 32]⟩,
    ⟨(some 29), none, false, .mov (.tmp 33)⟩,
    ⟨(some 34), none, false, .ext (.tmp 29) 0⟩,
    ⟨(some 35), none, false, .ext (.tmp 29) 1⟩,
    ⟨(some 9), none, false, .new [.int .i64 0, .int .i64 0, .int .i64 0, .slice none 0 0]⟩,
    ⟨none, none, false, .sto 4 (.tmp 9) (.tmp 34)⟩,
    ⟨(some 10), none, false, .mov (.tmp 35)⟩]) (.seq (.seq (.ops false [
    ⟨(some 36), none, false, .ldn 4 (.tmp 7)⟩,
    ⟨(some 37), none, false, .ldn 4 (.tmp 9)⟩,
    ⟨(some 38), none, false, .call (.func 13) [.tmp 36, .tmp 37]⟩,
    ⟨(some 39), none, false, .una .not (.tmp 38)⟩,
    ⟨(some 40), none, false, .mov (.tmp 39)⟩,
    ⟨(some 41), (some (40, false)), false, .mov (.tmp 8)⟩,
    ⟨(some 42), (some (40, false)), false, .mov (.tmp 10)⟩,
    ⟨(some 43), (some (40, false)), false, .bin .neq (.tmp 41) (.tmp 42)⟩,
    ⟨(some 44), none, false, .pick (.tmp 40) (.const (Value.bool true)) (.tmp 43)⟩]) (.cond (.tmp 44) (.seq (.ops false [
    ⟨(some 6), none, false, .mov (.const (Value.bool false))⟩]) .ret) .skip)) (.seq (.seq (.ops false [
    ⟨(some 45), none, false, .mov (.tmp 8)⟩,
    ⟨(some 46), none, false, .bin .eql (.tmp 45) (.const (Value.int IntKind.i64 0))⟩,
    ⟨(some 47), none, false, .mov (.tmp 46)⟩,
    ⟨(some 48), (some (47, true)), false, .fad 3 (.tmp 4)⟩,
    ⟨(some 49), (some (47, true)), false, .ld1 (.tmp 48)⟩,
    ⟨(some 50), (some (47, true)), false, .len .sl (.tmp 49)⟩,
    ⟨(some 51), (some (47, true)), false, .bin .gtr (.tmp 50) (.const (Value.int IntKind.i64 0))⟩,
    ⟨(some 52), none, false, .pick (.tmp 47) (.tmp 51) (.const (Value.bool false))⟩]) (.cond (.tmp 52) (.seq (.ops false [
    ⟨(some 53), none, false, .fad 3 (.tmp 4)⟩,
    ⟨(some 54), none, false, .ld1 (.tmp 53)⟩,
    ⟨(some 55), none, false, .ixs 1 (.tmp 54) (.const (Value.int IntKind.i64 0))⟩,
    ⟨(some 56), none, false, .ld1 (.tmp 55)⟩,
    ⟨(some 11), none, false, .mov (.tmp 56)⟩]) (.seq (.ops false [
    ⟨(some 57), none, false, .fad 3 (.tmp 7)⟩,
    ⟨(some 58), none, false, .ld1 (.tmp 57)⟩,
    ⟨(some 59), none, false, .ixs 1 (.tmp 58) (.const (Value.int IntKind.i64 0))⟩,
    ⟨(some 60), none, false, .ld1 (.tmp 59)⟩,
    ⟨(some 61), none, false, .bin .add (.tmp 60) (.const (Value.int IntKind.i64 1))⟩,
    ⟨(some 62), none, false, .ixs 1 (.tmp 58) (.const (Value.int IntKind.i64 0))⟩,
    ⟨none, none, false, .sto 1 (.tmp 62) (.tmp 61)⟩]) (.seq (.ops false [
    ⟨(some 63), none, false, .fad 3 (.tmp 4)⟩,
    ⟨(some 64), none, false, .ld1 (.tmp 63)⟩,
    ⟨(some 65), none, false, .ixs 1 (.tmp 64) (.const (Value.int IntKind.i64 0))⟩,
    ⟨(some 66), none, false, .ld1 (.tmp 65)⟩,
    ⟨(some 67), none, false, .mov (.tmp 11)⟩,
    ⟨(some 68), none, false, .bin .neq (.tmp 66) (.tmp 67)⟩]) (.cond (.tmp 68) (.seq (.ops false [
    ⟨(some 6), none, false, .mov (.const (Value.bool false))⟩]) .ret) .skip)))) .skip)) (.seq (.ops false [
    ⟨(some 69), none, false, .call (.func 8) []⟩,
    ⟨(some 6), none, false, .mov (.tmp 69)⟩]) .ret))))))) }
/-- bandplan/activity.Required -/
def ic6 : IFn := { ntmps := 15, results := [.tmp 4, .tmp 5], code := (.seq (.ops false [
    ⟨(some 4), none, false, .mov (.const (Value.int IntKind.i64 0))⟩,
    ⟨(some 5), none, false, .mov (.const (Value.int IntKind.i64 0))⟩]) (.seq (.seq (.ops false [
    ⟨(some 6), none, false, .mov (.tmp 0)⟩,
    ⟨(some 7), none, false, .mov (.tmp 1)⟩,
    ⟨(some 8), none, false, .call (.func 14) [.tmp 6, .const (Value.int IntKind.i64 0), .tmp 7]⟩,
    ⟨(some 9), none, false, .una .not (.tmp 8)⟩]) (.cond (.tmp 9) (.seq (.ops false [
    ⟨(some 4), none, false, .mov (.const (Value.int IntKind.i64 0))⟩,
    ⟨(some 5), none, false, .mov (.const (Value.int IntKind.i64 2))⟩]) .ret) .skip)) (.seq (.ops false [
    ⟨(some 10), none, false, .mov (.tmp 0)⟩,
    ⟨(some 11), none, false, .mov (.tmp 1)⟩,
    ⟨(some 12), none, false, .bin .mul (.tmp 10) (.tmp 11)⟩,
    ⟨(some 13), none, false, .bin .add (.tmp 12) (.const (Value.int IntKind.i64 99))⟩,
    ⟨(some 14), none, false, .bin .quo (.tmp 13) (.const (Value.int IntKind.i64 100))⟩,
    ⟨(some 4), none, false, .mov (.tmp 14)⟩,
    ⟨(some 5), none, false, .mov (.const (Value.int IntKind.i64 0))⟩]) .ret))) }
/-- bandplan/bandplanref35.Required -/
def ic7 : IFn := { ntmps := 15, results := [.tmp 4, .tmp 5], code := (.seq (.ops false [
    ⟨(some 4), none, false, .mov (.const (Value.int IntKind.i64 0))⟩,
    ⟨(some 5), none, false, .mov (.const (Value.int IntKind.i64 0))⟩]) (.seq (.seq (.ops false [
    ⟨(some 6), none, false, .mov (.tmp 0)⟩,
    ⟨(some 7), none, false, .mov (.tmp 1)⟩,
    ⟨(some 8), none, false, .call (.func 15) [.tmp 6, .const (Value.int IntKind.i64 0), .tmp 7]⟩,
    ⟨(some 9), none, false, .una .not (.tmp 8)⟩]) (.cond (.tmp 9) (.seq (.ops false [
    ⟨(some 4), none, false, .mov (.const (Value.int IntKind.i64 0))⟩,
    ⟨(some 5), none, false, .mov (.const (Value.int IntKind.i64 2))⟩]) .ret) .skip)) (.seq (.ops false [
    ⟨(some 10), none, false, .mov (.tmp 0)⟩,
    ⟨(some 11), none, false, .mov (.tmp 1)⟩,
    ⟨(some 12), none, false, .bin .mul (.tmp 10) (.tmp 11)⟩,
    ⟨(some 13), none, false, .bin .add (.tmp 12) (.const (Value.int IntKind.i64 99))⟩,
    ⟨(some 14), none, false, .bin .quo (.tmp 13) (.const (Value.int IntKind.i64 100))⟩,
    ⟨(some 4), none, false, .mov (.tmp 14)⟩,
    ⟨(some 5), none, false, .mov (.const (Value.int IntKind.i64 0))⟩]) .ret))) }
/-- bandplan/bandplanlaw35.known -/
def ic8 : IFn := { ntmps := 106, results := [.tmp 0], code := (.seq (.ops false [
    ⟨(some 0), none, false, .mov (.const (Value.bool false))⟩]) (.seq (.ops false [
    ⟨(some 17), none, false, .call (.func 6) [.const (Value.int IntKind.i64 10), .const (Value.int IntKind.i64 95)]⟩,
    ⟨(some 16), none, false, .mov (.tmp 17)⟩,
    ⟨(some 18), none, false, .ext (.tmp 16) 0⟩,
    ⟨(some 19), none, false, .ext (.tmp 16) 1⟩,
    ⟨(some 1), none, false, .mov (.tmp 18)⟩,
    ⟨(some 2), none, false, .mov (.tmp 19)⟩]) (.seq (.ops false [
    ⟨(some 21), none, false, .call (.func 6) [.const (Value.int IntKind.i64 10), .const (Value.int IntKind.i64 90)]⟩,
    ⟨(some 20), none, false, .mov (.tmp 21)⟩,
    ⟨(some 22), none, false, .ext (.tmp 20) 0⟩,
    ⟨(some 23), none, false, .ext (.tmp 20) 1⟩,
    ⟨(some 3), none, false, .mov (.tmp 22)⟩,
    ⟨(some 4), none, false, .mov (.tmp 23)⟩]) (.seq (.ops false [
    ⟨(some 25), none, false, .call (.func 9) [.const (Value.int IntKind.i64 100), .const (Value.int IntKind.i64 1), .const (Value.int IntKind.i64 80), .const (Value.int IntKind.i64 90)]⟩,
    ⟨(some 24), none, false, .mov (.tmp 25)⟩,
    ⟨(some 26), none, false, .ext (.tmp 24) 0⟩,
    ⟨(some 27), none, false, .ext (.tmp 24) 1⟩,
    ⟨(some 28), none, false, .ext (.tmp 24) 2⟩,
    ⟨(some 5), none, false, .mov (.tmp 26)⟩,
    ⟨(some 6), none, false, .mov (.tmp 27)⟩,
    ⟨(some 7), none, false, .mov (.tmp 28)⟩]) (.seq (.ops false [
    ⟨(some 30), none, false, .call (.func 9) [.const (Value.int IntKind.i64 100), .const (Value.int IntKind.i64 0), .const (Value.int IntKind.i64 80), .const (Value.int IntKind.i64 90)]⟩,
    ⟨(some 29), none, false, .mov (.tmp 30)⟩,
    ⟨(some 31), none, false, .ext (.tmp 29) 0⟩,
    ⟨(some 32), none, false, .ext (.tmp 29) 1⟩,
    ⟨(some 33), none, false, .ext (.tmp 29) 2⟩,
    ⟨(some 8), none, false, .mov (.tmp 31)⟩,
    ⟨(some 9), none, false, .mov (.tmp 32)⟩,
    ⟨(some 10), none, false, .mov (.tmp 33)⟩]) (.seq (.ops false [
    ⟨(some 35), none, false, .bsl 3 [.int .i64 0, .int .i64 0, .int .i64 0] [(0, 1, .const (Value.int IntKind.i64 80)), (1, 1, .const (Value.int IntKind.i64 80)), (2, 1, .const (Value.int IntKind.i64 80))]⟩,
    ⟨(some 36), none, false, .call (.func 16) [.const (Value.int IntKind.i64 100), .const (Value.int IntKind.i64 1), .const (Value.int IntKind.i64 90), .tmp 35]⟩,
    ⟨(some 34), none, false, .mov (.tmp 36)⟩,
    ⟨(some 37), none, false, .ext (.tmp 34) 0⟩,
    ⟨(some 38), none, false, .ext (.tmp 34) 1⟩,
    ⟨(some 39), none, false, .ext (.tmp 34) 2⟩,
    ⟨(some 11), none, false, .mov (.tmp 37)⟩,
    ⟨(some 12), none, false, .mov (.tmp 38)⟩,
    ⟨(some 13), none, false, .mov (.tmp 39)⟩]) (.seq (.ops false [
    ⟨(some 41), none, false, .bld [.int .i64 0, .int .i64 0, .int .i64 0, .int .i64 0, .int .i64 0] [(1, 1, .const (Value.int IntKind.i64 1)), (2, 1, .const (Value.int IntKind.i64 5)), (3, 1, .const (Value.int IntKind.i64 3))]⟩,
    ⟨(some 42), none, false, .bsl 1 [.int .i64 0, .int .i64 0, .int .i64 0, .int .i64 0, .int .i64 0] [(0, 5, .tmp 41)]⟩,
    ⟨(some 43), none, false, .bsl 1 [.int .i64 0] [(0, 1, .const (Value.int IntKind.i64 2))]⟩,
    ⟨(some 44), none, false, .bld [.int .i64 0, .int .i64 0, .int .i64 0, .slice none 0 0] [(1, 1, .const (Value.int IntKind.i64 10)), (3, 1, .tmp 43)]⟩,
    ⟨(some 45), none, false, .call (.func 17) [.tmp 42, .tmp 44, .const (Value.int IntKind.i64 0)]⟩,
    ⟨(some 40), none, false, .mov (.tmp 45)⟩,
    ⟨(some 46), none, false, .ext (.tmp 40) 0⟩,
    ⟨(some 47), none, false, .ext (.tmp 40) 1⟩,
    ⟨(some 14), none, false, .mov (.tmp 46)⟩,
    ⟨(some 15), none, false, .mov (.tmp 47)⟩]) (.seq (.ops false [
    ⟨(some 48), none, false, .mov (.tmp 1)⟩,
    ⟨(some 49), none, false, .bin .eql (.tmp 48) (.const (Value.int IntKind.i64 10))⟩,
    ⟨(some 50), none, false, .mov (.tmp 49)⟩,
    ⟨(some 51), (some (50, true)), false, .mov (.tmp 3)⟩,
    ⟨(some 52), (some (50, true)), false, .bin .eql (.tmp 51) (.const (Value.int IntKind.i64 9))⟩,
    ⟨(some 53), none, false, .pick (.tmp 50) (.tmp 52) (.const (Value.bool false))⟩,
    ⟨(some 54), none, false, .mov (.tmp 53)⟩,
    ⟨(some 55), (some (54, true)), false, .mov (.tmp 5)⟩,
    ⟨(some 56), (some (54, true)), false, .bin .eql (.tmp 55) (.const (Value.int IntKind.i64 100))⟩,
    ⟨(some 57), none, false, .pick (.tmp 54) (.tmp 56) (.const (Value.bool false))⟩,
    ⟨(some 58), none, false, .mov (.tmp 57)⟩,
    ⟨(some 59), (some (58, true)), false, .mov (.tmp 6)⟩,
    ⟨(some 60), (some (58, true)), false, .bin .eql (.tmp 59) (.const (Value.int IntKind.i64 0))⟩,
    ⟨(some 61), none, false, .pick (.tmp 58) (.tmp 60) (.const (Value.bool false))⟩,
    ⟨(some 62), none, false, .mov (.tmp 61)⟩,
    ⟨(some 63), (some (62, true)), false, .mov (.tmp 8)⟩,
    ⟨(some 64), (some (62, true)), false, .bin .eql (.tmp 63) (.const (Value.int IntKind.i64 88))⟩,
    ⟨(some 65), none, false, .pick (.tmp 62) (.tmp 64) (.const (Value.bool false))⟩,
    ⟨(some 66), none, false, .mov (.tmp 65)⟩,
    ⟨(some 67), (some (66, true)), false, .mov (.tmp 9)⟩,
    ⟨(some 68), (some (66, true)), false, .bin .eql (.tmp 67) (.const (Value.int IntKind.i64 0))⟩,
    ⟨(some 69), none, false, .pick (.tmp 66) (.tmp 68) (.const (Value.bool false))⟩,
    ⟨(some 70), none, false, .mov (.tmp 69)⟩,
    ⟨(some 71), (some (70, true)), false, .mov (.tmp 11)⟩,
    ⟨(some 72), (some (70, true)), false, .bin .eql (.tmp 71) (.const (Value.int IntKind.i64 88))⟩,
    ⟨(some 73), none, false, .pick (.tmp 70) (.tmp 72) (.const (Value.bool false))⟩,
    ⟨(some 74), none, false, .mov (.tmp 73)⟩,
    ⟨(some 75), (some (74, true)), false, .mov (.tmp 12)⟩,
    ⟨(some 76), (some (74, true)), false, .bin .eql (.tmp 75) (.const (Value.int IntKind.i64 0))⟩,
    ⟨(some 77), none, false, .pick (.tmp 74) (.tmp 76) (.const (Value.bool false))⟩,
    ⟨(some 78), none, false, .mov (.tmp 77)⟩,
    ⟨(some 79), (some (78, true)), false, .mov (.tmp 14)⟩,
    ⟨(some 80), (some (78, true)), false, .bin .eql (.tmp 79) (.const (Value.int IntKind.i64 1))⟩,
    ⟨(some 81), none, false, .pick (.tmp 78) (.tmp 80) (.const (Value.bool false))⟩,
    ⟨(some 82), none, false, .mov (.tmp 81)⟩,
    ⟨(some 83), (some (82, true)), false, .mov (.tmp 2)⟩,
    ⟨(some 84), (some (82, true)), false, .bin .eql (.tmp 83) (.const (Value.int IntKind.i64 0))⟩,
    ⟨(some 85), none, false, .pick (.tmp 82) (.tmp 84) (.const (Value.bool false))⟩,
    ⟨(some 86), none, false, .mov (.tmp 85)⟩,
    ⟨(some 87), (some (86, true)), false, .mov (.tmp 4)⟩,
    ⟨(some 88), (some (86, true)), false, .bin .eql (.tmp 87) (.const (Value.int IntKind.i64 0))⟩,
    ⟨(some 89), none, false, .pick (.tmp 86) (.tmp 88) (.const (Value.bool false))⟩,
    ⟨(some 90), none, false, .mov (.tmp 89)⟩,
    ⟨(some 91), (some (90, true)), false, .mov (.tmp 7)⟩,
    ⟨(some 92), (some (90, true)), false, .bin .eql (.tmp 91) (.const (Value.int IntKind.i64 0))⟩,
    ⟨(some 93), none, false, .pick (.tmp 90) (.tmp 92) (.const (Value.bool false))⟩,
    ⟨(some 94), none, false, .mov (.tmp 93)⟩,
    ⟨(some 95), (some (94, true)), false, .mov (.tmp 10)⟩,
    ⟨(some 96), (some (94, true)), false, .bin .eql (.tmp 95) (.const (Value.int IntKind.i64 0))⟩,
    ⟨(some 97), none, false, .pick (.tmp 94) (.tmp 96) (.const (Value.bool false))⟩,
    ⟨(some 98), none, false, .mov (.tmp 97)⟩,
    ⟨(some 99), (some (98, true)), false, .mov (.tmp 13)⟩,
    ⟨(some 100), (some (98, true)), false, .bin .eql (.tmp 99) (.const (Value.int IntKind.i64 0))⟩,
    ⟨(some 101), none, false, .pick (.tmp 98) (.tmp 100) (.const (Value.bool false))⟩,
    ⟨(some 102), none, false, .mov (.tmp 101)⟩,
    ⟨(some 103), (some (102, true)), false, .mov (.tmp 15)⟩,
    ⟨(some 104), (some (102, true)), false, .bin .eql (.tmp 103) (.const (Value.int IntKind.i64 0))⟩,
    ⟨(some 105), none, false, .pick (.tmp 102) (.tmp 104) (.const (Value.bool false))⟩,
    ⟨(some 0), none, false, .mov (.tmp 105)⟩]) .ret)))))))) }
/-- bandplan/activity.Keep -/
def ic9 : IFn := { ntmps := 49, results := [.tmp 8, .tmp 9, .tmp 10], code := (.seq (.ops false [
    ⟨(some 8), none, false, .mov (.const (Value.int IntKind.i64 0))⟩,
    ⟨(some 9), none, false, .mov (.const (Value.int IntKind.i64 0))⟩,
    ⟨(some 10), none, false, .mov (.const (Value.int IntKind.i64 0))⟩]) (.seq (.seq (.ops false [
    ⟨(some 13), none, false, .mov (.tmp 0)⟩,
    ⟨(some 14), none, false, .mov (.tmp 1)⟩,
    ⟨(some 15), none, false, .mov (.tmp 3)⟩,
    ⟨(some 16), none, false, .call (.func 14) [.tmp 13, .tmp 14, .tmp 15]⟩,
    ⟨(some 17), none, false, .una .not (.tmp 16)⟩,
    ⟨(some 18), none, false, .mov (.tmp 17)⟩,
    ⟨(some 19), (some (18, false)), false, .mov (.tmp 2)⟩,
    ⟨(some 20), (some (18, false)), false, .bin .lss (.tmp 19) (.const (Value.int IntKind.i64 0))⟩,
    ⟨(some 21), none, false, .pick (.tmp 18) (.const (Value.bool true)) (.tmp 20)⟩,
    ⟨(some 22), none, false, .mov (.tmp 21)⟩,
    ⟨(some 23), (some (22, false)), false, .mov (.tmp 2)⟩,
    ⟨(some 24), (some (22, false)), false, .mov (.tmp 0)⟩,
    ⟨(some 25), (some (22, false)), false, .bin .gtr (.tmp 23) (.tmp 24)⟩,
    ⟨(some 26), none, false, .pick (.tmp 22) (.const (Value.bool true)) (.tmp 25)⟩]) (.cond (.tmp 26) (.seq (.ops false [
    ⟨(some 8), none, false, .mov (.const (Value.int IntKind.i64 0))⟩,
    ⟨(some 9), none, false, .mov (.const (Value.int IntKind.i64 0))⟩,
    ⟨(some 10), none, false, .mov (.const (Value.int IntKind.i64 2))⟩]) .ret) .skip)) (.seq (.ops false [
    ⟨(some 28), none, false, .mov (.tmp 0)⟩,
    ⟨(some 29), none, false, .mov (.tmp 3)⟩,
    ⟨(some 30), none, false, .call (.func 6) [.tmp 28, .tmp 29]⟩,
    ⟨(some 27), none, false, .mov (.tmp 30)⟩,
    ⟨(some 31), none, false, .ext (.tmp 27) 0⟩,
    ⟨(some 32), none, false, .ext (.tmp 27) 1⟩,
    ⟨(some 11), none, false, .mov (.tmp 31)⟩,
    ⟨(some 12), none, false, .mov (.tmp 32)⟩]) (.seq (.block 0 (.seq (.ops false [
    ⟨(some 34), none, false, .mov (.tmp 2)⟩,
    ⟨(some 35), none, false, .mov (.tmp 11)⟩,
    ⟨(some 36), none, false, .bin .geq (.tmp 34) (.tmp 35)⟩,
    ⟨(some 33), none, false, .mov (.tmp 36)⟩]) (.cond (.tmp 33) (.seq (.ops false [
    ⟨(some 37), none, false, .mov (.tmp 0)⟩,
    ⟨(some 38), none, false, .mov (.tmp 1)⟩,
    ⟨(some 8), none, false, .mov (.tmp 37)⟩,
    ⟨(some 9), none, false, .mov (.tmp 38)⟩,
    ⟨(some 10), none, false, .mov (.const (Value.int IntKind.i64 0))⟩]) .ret) (.seq (.ops false [
    ⟨(some 40), none, false, .mov (.tmp 1)⟩,
    ⟨(some 41), none, false, .bin .gtr (.tmp 40) (.const (Value.int IntKind.i64 0))⟩,
    ⟨(some 39), none, false, .mov (.tmp 41)⟩]) (.cond (.tmp 39) (.seq (.ops false [
    ⟨(some 42), none, false, .mov (.tmp 0)⟩,
    ⟨(some 43), none, false, .mov (.tmp 1)⟩,
    ⟨(some 44), none, false, .bin .sub (.tmp 43) (.const (Value.int IntKind.i64 1))⟩,
    ⟨(some 8), none, false, .mov (.tmp 42)⟩,
    ⟨(some 9), none, false, .mov (.tmp 44)⟩,
    ⟨(some 10), none, false, .mov (.const (Value.int IntKind.i64 0))⟩]) .ret) .skip))))) (.seq (.ops false [
    ⟨(some 45), none, false, .mov (.tmp 2)⟩,
    ⟨(some 46), none, false, .bin .mul (.tmp 45) (.const (Value.int IntKind.i64 100))⟩,
    ⟨(some 47), none, false, .mov (.tmp 3)⟩,
    ⟨(some 48), none, false, .bin .quo (.tmp 46) (.tmp 47)⟩,
    ⟨(some 8), none, false, .mov (.tmp 48)⟩,
    ⟨(some 9), none, false, .mov (.const (Value.int IntKind.i64 0))⟩,
    ⟨(some 10), none, false, .mov (.const (Value.int IntKind.i64 0))⟩]) .ret))))) }
/-- bandplan/bandplanref35.Keep -/
def ic10 : IFn := { ntmps := 47, results := [.tmp 8, .tmp 9, .tmp 10], code := (.seq (.ops false [
    ⟨(some 8), none, false, .mov (.const (Value.int IntKind.i64 0))⟩,
    ⟨(some 9), none, false, .mov (.const (Value.int IntKind.i64 0))⟩,
    ⟨(some 10), none, false, .mov (.const (Value.int IntKind.i64 0))⟩]) (.seq (.seq (.ops false [
    ⟨(some 13), none, false, .mov (.tmp 0)⟩,
    ⟨(some 14), none, false, .mov (.tmp 1)⟩,
    ⟨(some 15), none, false, .mov (.tmp 3)⟩,
    ⟨(some 16), none, false, .call (.func 15) [.tmp 13, .tmp 14, .tmp 15]⟩,
    ⟨(some 17), none, false, .una .not (.tmp 16)⟩,
    ⟨(some 18), none, false, .mov (.tmp 17)⟩,
    ⟨(some 19), (some (18, false)), false, .mov (.tmp 2)⟩,
    ⟨(some 20), (some (18, false)), false, .bin .lss (.tmp 19) (.const (Value.int IntKind.i64 0))⟩,
    ⟨(some 21), none, false, .pick (.tmp 18) (.const (Value.bool true)) (.tmp 20)⟩,
    ⟨(some 22), none, false, .mov (.tmp 21)⟩,
    ⟨(some 23), (some (22, false)), false, .mov (.tmp 2)⟩,
    ⟨(some 24), (some (22, false)), false, .mov (.tmp 0)⟩,
    ⟨(some 25), (some (22, false)), false, .bin .gtr (.tmp 23) (.tmp 24)⟩,
    ⟨(some 26), none, false, .pick (.tmp 22) (.const (Value.bool true)) (.tmp 25)⟩]) (.cond (.tmp 26) (.seq (.ops false [
    ⟨(some 8), none, false, .mov (.const (Value.int IntKind.i64 0))⟩,
    ⟨(some 9), none, false, .mov (.const (Value.int IntKind.i64 0))⟩,
    ⟨(some 10), none, false, .mov (.const (Value.int IntKind.i64 2))⟩]) .ret) .skip)) (.seq (.ops false [
    ⟨(some 28), none, false, .mov (.tmp 0)⟩,
    ⟨(some 29), none, false, .mov (.tmp 3)⟩,
    ⟨(some 30), none, false, .call (.func 7) [.tmp 28, .tmp 29]⟩,
    ⟨(some 27), none, false, .mov (.tmp 30)⟩,
    ⟨(some 31), none, false, .ext (.tmp 27) 0⟩,
    ⟨(some 32), none, false, .ext (.tmp 27) 1⟩,
    ⟨(some 11), none, false, .mov (.tmp 31)⟩,
    ⟨(some 12), none, false, .mov (.tmp 32)⟩]) (.seq (.seq (.ops false [
    ⟨(some 33), none, false, .mov (.tmp 2)⟩,
    ⟨(some 34), none, false, .mov (.tmp 11)⟩,
    ⟨(some 35), none, false, .bin .geq (.tmp 33) (.tmp 34)⟩]) (.cond (.tmp 35) (.seq (.ops false [
    ⟨(some 36), none, false, .mov (.tmp 0)⟩,
    ⟨(some 37), none, false, .mov (.tmp 1)⟩,
    ⟨(some 8), none, false, .mov (.tmp 36)⟩,
    ⟨(some 9), none, false, .mov (.tmp 37)⟩,
    ⟨(some 10), none, false, .mov (.const (Value.int IntKind.i64 0))⟩]) .ret) .skip)) (.seq (.seq (.ops false [
    ⟨(some 38), none, false, .mov (.tmp 1)⟩,
    ⟨(some 39), none, false, .bin .gtr (.tmp 38) (.const (Value.int IntKind.i64 0))⟩]) (.cond (.tmp 39) (.seq (.ops false [
    ⟨(some 40), none, false, .mov (.tmp 0)⟩,
    ⟨(some 41), none, false, .mov (.tmp 1)⟩,
    ⟨(some 42), none, false, .bin .sub (.tmp 41) (.const (Value.int IntKind.i64 1))⟩,
    ⟨(some 8), none, false, .mov (.tmp 40)⟩,
    ⟨(some 9), none, false, .mov (.tmp 42)⟩,
    ⟨(some 10), none, false, .mov (.const (Value.int IntKind.i64 0))⟩]) .ret) .skip)) (.seq (.ops false [
    ⟨(some 43), none, false, .mov (.tmp 2)⟩,
    ⟨(some 44), none, false, .bin .mul (.tmp 43) (.const (Value.int IntKind.i64 100))⟩,
    ⟨(some 45), none, false, .mov (.tmp 3)⟩,
    ⟨(some 46), none, false, .bin .quo (.tmp 44) (.tmp 45)⟩,
    ⟨(some 8), none, false, .mov (.tmp 46)⟩,
    ⟨(some 9), none, false, .mov (.const (Value.int IntKind.i64 0))⟩,
    ⟨(some 10), none, false, .mov (.const (Value.int IntKind.i64 0))⟩]) .ret)))))) }
/-- bandplan/activity.Settle -/
def ic11 : IFn := { ntmps := 53, results := [.agg 6 4, .tmp 7], code := (.seq (.ops false [
    ⟨(some 4), none, false, .box 4 (.tmp 1)⟩,
    ⟨(some 6), none, false, .new [.int .i64 0, .int .i64 0, .int .i64 0, .slice none 0 0]⟩,
    ⟨(some 7), none, false, .mov (.const (Value.int IntKind.i64 0))⟩]) (.seq (.ops false [
    ⟨(some 11), none, false, .mov (.tmp 0)⟩,
    ⟨(some 12), none, false, .ldn 4 (.tmp 4)⟩,
    ⟨(some 13), none, false, .call (.func 18) [.tmp 11, .tmp 12]⟩,
    ⟨(some 10), none, false, .mov (.tmp 13)⟩,
    ⟨(some 14), none, false, .ext (.tmp 10) 0⟩,
    ⟨(some 15), none, false, .ext (.tmp 10) 1⟩,
    ⟨(some 8), none, false, .new [.int .i64 0, .int .i64 0, .int .i64 0, .slice none 0 0, .int .i64 0]⟩,
    ⟨none, none, false, .sto 5 (.tmp 8) (.tmp 14)⟩,
    ⟨(some 9), none, false, .mov (.tmp 15)⟩]) (.seq (.seq (.ops false [
    ⟨(some 16), none, false, .mov (.tmp 9)⟩,
    ⟨(some 17), none, false, .bin .neq (.tmp 16) (.const (Value.int IntKind.i64 0))⟩,
    ⟨(some 18), none, false, .mov (.tmp 17)⟩,
    ⟨(some 19), (some (18, false)), false, .mov (.tmp 2)⟩,
    ⟨(some 20), (some (18, false)), false, .bin .lss (.tmp 19) (.const (Value.int IntKind.i64 1))⟩,
    ⟨(some 21), none, false, .pick (.tmp 18) (.const (Value.bool true)) (.tmp 20)⟩,
    ⟨(some 22), none, false, .mov (.tmp 21)⟩,
    ⟨(some 23), (some (22, false)), false, .mov (.tmp 2)⟩,
    ⟨(some 24), (some (22, false)), false, .bin .gtr (.tmp 23) (.const (Value.int IntKind.i64 100))⟩,
    ⟨(some 25), none, false, .pick (.tmp 22) (.const (Value.bool true)) (.tmp 24)⟩]) (.cond (.tmp 25) (.seq (.ops false [
    ⟨(some 26), none, false, .bld [.int .i64 0, .int .i64 0, .int .i64 0, .slice none 0 0] []⟩,
    ⟨none, none, false, .sto 4 (.tmp 6) (.tmp 26)⟩,
    ⟨(some 7), none, false, .mov (.const (Value.int IntKind.i64 2))⟩]) .ret) .skip)) (.seq (.ops false [
    ⟨(some 28), none, false, .fad 0 (.tmp 8)⟩,
    ⟨(some 29), none, false, .fad 1 (.tmp 28)⟩,
    ⟨(some 30), none, false, .ld1 (.tmp 29)⟩,
    ⟨(some 31), none, false, .fad 0 (.tmp 8)⟩,
    ⟨(some 32), none, false, .fad 2 (.tmp 31)⟩,
    ⟨(some 33), none, false, .ld1 (.tmp 32)⟩,
    ⟨(some 34), none, false, .fad 4 (.tmp 8)⟩,
    ⟨(some 35), none, false, .ld1 (.tmp 34)⟩,
    ⟨(some 36), none, false, .mov (.tmp 2)⟩,
    ⟨(some 37), none, false, .call (.func 9) [.tmp 30, .tmp 33, .tmp 35, .tmp 36]⟩,
    ⟨(some 27), none, false, .mov (.tmp 37)⟩,
    ⟨(some 38), none, false, .ext (.tmp 27) 0⟩,
    ⟨(some 39), none, false, .ext (.tmp 27) 1⟩,
    ⟨(some 40), none, false, .ext (.tmp 27) 2⟩,
    ⟨(some 41), none, false, .fad 0 (.tmp 8)⟩,
    ⟨(some 42), none, false, .fad 1 (.tmp 41)⟩,
    ⟨none, none, false, .sto 1 (.tmp 42) (.tmp 38)⟩,
    ⟨(some 43), none, false, .fad 0 (.tmp 8)⟩,
    ⟨(some 44), none, false, .fad 2 (.tmp 43)⟩,
    ⟨none, none, false, .sto 1 (.tmp 44) (.tmp 39)⟩]) (.seq (.ops false [
    ⟨(some 45), none, false, .fad 0 (.tmp 8)⟩,
    ⟨(some 46), none, false, .fad 3 (.tmp 45)⟩,
    ⟨(some 47), none, false, .ld1 (.tmp 46)⟩,
    ⟨(some 48), none, false, .call (.func 19) [.tmp 47]⟩,
    ⟨(some 49), none, false, .fad 0 (.tmp 8)⟩,
    ⟨(some 50), none, false, .fad 3 (.tmp 49)⟩,
    ⟨none, none, false, .sto 1 (.tmp 50) (.tmp 48)⟩]) (.seq (.ops false [
    ⟨(some 51), none, false, .fad 0 (.tmp 8)⟩,
    ⟨(some 52), none, false, .ldn 4 (.tmp 51)⟩,
    ⟨none, none, false, .sto 4 (.tmp 6) (.tmp 52)⟩,
    ⟨(some 7), none, false, .mov (.const (Value.int IntKind.i64 0))⟩]) .ret)))))) }
/-- bandplan/bandplanref35.Settle -/
def ic12 : IFn := { ntmps := 50, results := [.agg 6 4, .tmp 7], code := (.seq (.ops false [
    ⟨(some 4), none, false, .box 4 (.tmp 1)⟩,
    ⟨(some 6), none, false, .new [.int .i64 0, .int .i64 0, .int .i64 0, .slice none 0 0]⟩,
    ⟨(some 7), none, false, .mov (.const (Value.int IntKind.i64 0))⟩]) (.seq (.seq (.ops false [
    ⟨(some 11), none, false, .mov (.tmp 0)⟩,
    ⟨(some 12), none, false, .ldn 4 (.tmp 4)⟩,
    ⟨(some 13), none, false, .call (.func 20) [.tmp 11, .tmp 12]⟩,
    ⟨(some 14), none, false, .una .not (.tmp 13)⟩,
    ⟨(some 15), none, false, .mov (.tmp 14)⟩,
    ⟨(some 16), (some (15, false)), false, .mov (.tmp 2)⟩,
    ⟨(some 17), (some (15, false)), false, .bin .lss (.tmp 16) (.const (Value.int IntKind.i64 1))⟩,
    ⟨(some 18), none, false, .pick (.tmp 15) (.const (Value.bool true)) (.tmp 17)⟩,
    ⟨(some 19), none, false, .mov (.tmp 18)⟩,
    ⟨(some 20), (some (19, false)), false, .mov (.tmp 2)⟩,
    ⟨(some 21), (some (19, false)), false, .bin .gtr (.tmp 20) (.const (Value.int IntKind.i64 100))⟩,
    ⟨(some 22), none, false, .pick (.tmp 19) (.const (Value.bool true)) (.tmp 21)⟩]) (.cond (.tmp 22) (.seq (.ops false [
    ⟨(some 23), none, false, .bld [.int .i64 0, .int .i64 0, .int .i64 0, .slice none 0 0] []⟩,
    ⟨none, none, false, .sto 4 (.tmp 6) (.tmp 23)⟩,
    ⟨(some 7), none, false, .mov (.const (Value.int IntKind.i64 2))⟩]) .ret) .skip)) (.seq (.ops false [
    ⟨(some 25), none, false, .mov (.tmp 0)⟩,
    ⟨(some 26), none, false, .fad 3 (.tmp 4)⟩,
    ⟨(some 27), none, false, .ld1 (.tmp 26)⟩,
    ⟨(some 28), none, false, .call (.func 21) [.tmp 25, .tmp 27]⟩,
    ⟨(some 24), none, false, .mov (.tmp 28)⟩,
    ⟨(some 29), none, false, .ext (.tmp 24) 0⟩,
    ⟨(some 30), none, false, .ext (.tmp 24) 1⟩,
    ⟨(some 8), none, false, .mov (.tmp 29)⟩,
    ⟨(some 9), none, false, .mov (.tmp 30)⟩]) (.seq (.ops false [
    ⟨(some 31), none, false, .ldn 4 (.tmp 4)⟩,
    ⟨(some 32), none, false, .bsl 1 [.int .i64 0, .int .i64 0, .int .i64 0, .slice none 0 0] [(0, 4, .tmp 31)]⟩,
    ⟨(some 33), none, false, .call (.func 22) [.tmp 32]⟩,
    ⟨(some 34), none, false, .ixs 4 (.tmp 33) (.const (Value.int IntKind.i64 0))⟩,
    ⟨(some 35), none, false, .ldn 4 (.tmp 34)⟩,
    ⟨(some 10), none, false, .new [.int .i64 0, .int .i64 0, .int .i64 0, .slice none 0 0]⟩,
    ⟨none, none, false, .sto 4 (.tmp 10) (.tmp 35)⟩]) (.seq (.ops false [
    ⟨(some 37), none, false, .fad 1 (.tmp 4)⟩,
    ⟨(some 38), none, false, .ld1 (.tmp 37)⟩,
    ⟨(some 39), none, false, .fad 2 (.tmp 4)⟩,
    ⟨(some 40), none, false, .ld1 (.tmp 39)⟩,
    ⟨(some 41), none, false, .mov (.tmp 8)⟩,
    ⟨(some 42), none, false, .mov (.tmp 2)⟩,
    ⟨(some 43), none, false, .call (.func 10) [.tmp 38, .tmp 40, .tmp 41, .tmp 42]⟩,
    ⟨(some 36), none, false, .mov (.tmp 43)⟩,
    ⟨(some 44), none, false, .ext (.tmp 36) 0⟩,
    ⟨(some 45), none, false, .ext (.tmp 36) 1⟩,
    ⟨(some 46), none, false, .ext (.tmp 36) 2⟩,
    ⟨(some 47), none, false, .fad 1 (.tmp 10)⟩,
    ⟨none, none, false, .sto 1 (.tmp 47) (.tmp 44)⟩,
    ⟨(some 48), none, false, .fad 2 (.tmp 10)⟩,
    ⟨none, none, false, .sto 1 (.tmp 48) (.tmp 45)⟩]) (.seq (.ops false [
    ⟨(some 49), none, false, .ldn 4 (.tmp 10)⟩,
    ⟨none, none, false, .sto 4 (.tmp 6) (.tmp 49)⟩,
    ⟨(some 7), none, false, .mov (.const (Value.int IntKind.i64 0))⟩]) .ret)))))) }
/-- bandplan/bandplanref35.Same -/
def ic13 : IFn := { ntmps := 10, results := [.tmp 4], code := (.seq (.ops false [
    ⟨(some 2), none, false, .box 4 (.tmp 0)⟩,
    ⟨(some 3), none, false, .box 4 (.tmp 1)⟩,
    ⟨(some 4), none, false, .mov (.const (Value.bool false))⟩]) (.seq (.ops false [
    ⟨(some 5), none, false, .ldn 4 (.tmp 2)⟩,
    ⟨(some 6), none, false, .bsl 1 [.int .i64 0, .int .i64 0, .int .i64 0, .slice none 0 0] [(0, 4, .tmp 5)]⟩,
    ⟨(some 7), none, false, .ldn 4 (.tmp 3)⟩,
    ⟨(some 8), none, false, .bsl 1 [.int .i64 0, .int .i64 0, .int .i64 0, .slice none 0 0] [(0, 4, .tmp 7)]⟩,
    ⟨(some 9), none, false, .call (.func 23) [.tmp 6, .tmp 8]⟩,
    ⟨(some 4), none, false, .mov (.tmp 9)⟩]) .ret)) }
/-- bandplan/activity.good -/
def ic14 : IFn := { ntmps := 29, results := [.tmp 6], code := (.seq (.ops false [
    ⟨(some 6), none, false, .mov (.const (Value.bool false))⟩]) (.seq (.ops false [
    ⟨(some 7), none, false, .mov (.tmp 0)⟩,
    ⟨(some 8), none, false, .bin .geq (.tmp 7) (.const (Value.int IntKind.i64 0))⟩,
    ⟨(some 9), none, false, .mov (.tmp 8)⟩,
    ⟨(some 10), (some (9, true)), false, .mov (.tmp 0)⟩,
    ⟨(some 11), (some (9, true)), false, .bin .leq (.tmp 10) (.const (Value.int IntKind.i64 76800000))⟩,
    ⟨(some 12), none, false, .pick (.tmp 9) (.tmp 11) (.const (Value.bool false))⟩,
    ⟨(some 13), none, false, .mov (.tmp 12)⟩,
    ⟨(some 14), (some (13, true)), false, .mov (.tmp 1)⟩,
    ⟨(some 15), (some (13, true)), false, .bin .geq (.tmp 14) (.const (Value.int IntKind.i64 0))⟩,
    ⟨(some 16), none, false, .pick (.tmp 13) (.tmp 15) (.const (Value.bool false))⟩,
    ⟨(some 17), none, false, .mov (.tmp 16)⟩,
    ⟨(some 18), (some (17, true)), false, .mov (.tmp 1)⟩,
    ⟨(some 19), (some (17, true)), false, .bin .leq (.tmp 18) (.const (Value.int IntKind.i64 3))⟩,
    ⟨(some 20), none, false, .pick (.tmp 17) (.tmp 19) (.const (Value.bool false))⟩,
    ⟨(some 21), none, false, .mov (.tmp 20)⟩,
    ⟨(some 22), (some (21, true)), false, .mov (.tmp 2)⟩,
    ⟨(some 23), (some (21, true)), false, .bin .geq (.tmp 22) (.const (Value.int IntKind.i64 1))⟩,
    ⟨(some 24), none, false, .pick (.tmp 21) (.tmp 23) (.const (Value.bool false))⟩,
    ⟨(some 25), none, false, .mov (.tmp 24)⟩,
    ⟨(some 26), (some (25, true)), false, .mov (.tmp 2)⟩,
    ⟨(some 27), (some (25, true)), false, .bin .leq (.tmp 26) (.const (Value.int IntKind.i64 100))⟩,
    ⟨(some 28), none, false, .pick (.tmp 25) (.tmp 27) (.const (Value.bool false))⟩,
    ⟨(some 6), none, false, .mov (.tmp 28)⟩]) .ret)) }
/-- bandplan/bandplanref35.Good -/
def ic15 : IFn := { ntmps := 29, results := [.tmp 6], code := (.seq (.ops false [
    ⟨(some 6), none, false, .mov (.const (Value.bool false))⟩]) (.seq (.ops false [
    ⟨(some 7), none, false, .mov (.tmp 0)⟩,
    ⟨(some 8), none, false, .bin .geq (.tmp 7) (.const (Value.int IntKind.i64 0))⟩,
    ⟨(some 9), none, false, .mov (.tmp 8)⟩,
    ⟨(some 10), (some (9, true)), false, .mov (.tmp 0)⟩,
    ⟨(some 11), (some (9, true)), false, .bin .leq (.tmp 10) (.const (Value.int IntKind.i64 76800000))⟩,
    ⟨(some 12), none, false, .pick (.tmp 9) (.tmp 11) (.const (Value.bool false))⟩,
    ⟨(some 13), none, false, .mov (.tmp 12)⟩,
    ⟨(some 14), (some (13, true)), false, .mov (.tmp 1)⟩,
    ⟨(some 15), (some (13, true)), false, .bin .geq (.tmp 14) (.const (Value.int IntKind.i64 0))⟩,
    ⟨(some 16), none, false, .pick (.tmp 13) (.tmp 15) (.const (Value.bool false))⟩,
    ⟨(some 17), none, false, .mov (.tmp 16)⟩,
    ⟨(some 18), (some (17, true)), false, .mov (.tmp 1)⟩,
    ⟨(some 19), (some (17, true)), false, .bin .leq (.tmp 18) (.const (Value.int IntKind.i64 3))⟩,
    ⟨(some 20), none, false, .pick (.tmp 17) (.tmp 19) (.const (Value.bool false))⟩,
    ⟨(some 21), none, false, .mov (.tmp 20)⟩,
    ⟨(some 22), (some (21, true)), false, .mov (.tmp 2)⟩,
    ⟨(some 23), (some (21, true)), false, .bin .geq (.tmp 22) (.const (Value.int IntKind.i64 1))⟩,
    ⟨(some 24), none, false, .pick (.tmp 21) (.tmp 23) (.const (Value.bool false))⟩,
    ⟨(some 25), none, false, .mov (.tmp 24)⟩,
    ⟨(some 26), (some (25, true)), false, .mov (.tmp 2)⟩,
    ⟨(some 27), (some (25, true)), false, .bin .leq (.tmp 26) (.const (Value.int IntKind.i64 100))⟩,
    ⟨(some 28), none, false, .pick (.tmp 25) (.tmp 27) (.const (Value.bool false))⟩,
    ⟨(some 6), none, false, .mov (.tmp 28)⟩]) .ret)) }
/-- bandplan/activity.After -/
def ic16 : IFn := { ntmps := 43, results := [.tmp 8, .tmp 9, .tmp 10], code := (.seq (.ops false [
    ⟨(some 8), none, false, .mov (.const (Value.int IntKind.i64 0))⟩,
    ⟨(some 9), none, false, .mov (.const (Value.int IntKind.i64 0))⟩,
    ⟨(some 10), none, false, .mov (.const (Value.int IntKind.i64 0))⟩]) (.seq (.seq (.ops false [
    ⟨(some 14), none, false, .mov (.tmp 0)⟩,
    ⟨(some 15), none, false, .mov (.tmp 1)⟩,
    ⟨(some 16), none, false, .mov (.tmp 2)⟩,
    ⟨(some 17), none, false, .call (.func 14) [.tmp 14, .tmp 15, .tmp 16]⟩,
    ⟨(some 18), none, false, .una .not (.tmp 17)⟩,
    ⟨(some 19), none, false, .mov (.tmp 18)⟩,
    ⟨(some 20), (some (19, false)), false, .mov (.tmp 3)⟩,
    ⟨(some 21), (some (19, false)), false, .call (.func 24) [.tmp 20, .func 25]⟩,
    ⟨(some 22), none, false, .pick (.tmp 19) (.const (Value.bool true)) (.tmp 21)⟩]) (.cond (.tmp 22) (.seq (.ops false [
    ⟨(some 8), none, false, .mov (.const (Value.int IntKind.i64 0))⟩,
    ⟨(some 9), none, false, .mov (.const (Value.int IntKind.i64 0))⟩,
    ⟨(some 10), none, false, .mov (.const (Value.int IntKind.i64 2))⟩]) .ret) .skip)) (.seq (.seq (.ops false [
    ⟨(some 23), none, false, .mov (.tmp 3)⟩,
    ⟨(some 24), none, false, .len .sl (.tmp 23)⟩,
    ⟨(some 25), none, false, .mov (.const (Value.int IntKind.i64 0))⟩]) (.block 0 (.loop (.seq (.ops false [
    ⟨(some 26), none, false, .bin .lss (.tmp 25) (.tmp 24)⟩]) (.seq (.cond (.tmp 26) .skip (.exit 0)) (.seq (.block 1 (.seq (.ops false [
    ⟨(some 27), none, false, .ixs 1 (.tmp 23) (.tmp 25)⟩,
    ⟨(some 28), none, false, .ld1 (.tmp 27)⟩,
    ⟨(some 12), none, false, .mov (.tmp 28)⟩]) (.seq (.ops false [
    ⟨(some 13), none, false, .mov (.const (Value.int IntKind.i64 0))⟩]) (.seq (.ops false [
    ⟨(some 30), none, false, .mov (.tmp 0)⟩,
    ⟨(some 31), none, false, .mov (.tmp 1)⟩,
    ⟨(some 32), none, false, .mov (.tmp 12)⟩,
    ⟨(some 33), none, false, .mov (.tmp 2)⟩,
    ⟨(some 34), none, false, .call (.func 9) [.tmp 30, .tmp 31, .tmp 32, .tmp 33]⟩,
    ⟨(some 29), none, false, .mov (.tmp 34)⟩,
    ⟨(some 35), none, false, .ext (.tmp 29) 0⟩,
    ⟨(some 36), none, false, .ext (.tmp 29) 1⟩,
    ⟨(some 37), none, false, .ext (.tmp 29) 2⟩,
    ⟨(some 0), none, false, .mov (.tmp 35)⟩,
    ⟨(some 1), none, false, .mov (.tmp 36)⟩,
    ⟨(some 13), none, false, .mov (.tmp 37)⟩]) (.seq (.ops false [
    ⟨(some 38), none, false, .mov (.tmp 13)⟩,
    ⟨(some 39), none, false, .bin .neq (.tmp 38) (.const (Value.int IntKind.i64 0))⟩]) (.cond (.tmp 39) (.seq (.ops false [
    ⟨(some 8), none, false, .mov (.const (Value.int IntKind.i64 0))⟩,
    ⟨(some 9), none, false, .mov (.const (Value.int IntKind.i64 0))⟩,
    ⟨(some 10), none, false, .mov (.const (Value.int IntKind.i64 3))⟩]) .ret) .skip)))))) (.ops false [
    ⟨(some 40), none, false, .bin .add (.tmp 25) (.const (Value.int IntKind.i64 1))⟩,
    ⟨(some 25), none, false, .mov (.tmp 40)⟩]))))))) (.seq (.ops false [
    ⟨(some 41), none, false, .mov (.tmp 0)⟩,
    ⟨(some 42), none, false, .mov (.tmp 1)⟩,
    ⟨(some 8), none, false, .mov (.tmp 41)⟩,
    ⟨(some 9), none, false, .mov (.tmp 42)⟩,
    ⟨(some 10), none, false, .mov (.const (Value.int IntKind.i64 0))⟩]) .ret)))) }
/-- bandplan/activity.Room -/
def ic17 : IFn := { ntmps := 52, results := [.tmp 6, .tmp 7], code := (.seq (.ops false [
    ⟨(some 4), none, false, .box 4 (.tmp 1)⟩,
    ⟨(some 6), none, false, .mov (.const (Value.int IntKind.i64 0))⟩,
    ⟨(some 7), none, false, .mov (.const (Value.int IntKind.i64 0))⟩]) (.seq (.ops false [
    ⟨(some 12), none, false, .mov (.tmp 0)⟩,
    ⟨(some 13), none, false, .ldn 4 (.tmp 4)⟩,
    ⟨(some 14), none, false, .call (.func 18) [.tmp 12, .tmp 13]⟩,
    ⟨(some 11), none, false, .mov (.tmp 14)⟩,
    ⟨(some 15), none, false, .ext (.tmp 11) 0⟩,
    ⟨(some 16), none, false, .ext (.tmp 11) 1⟩,
    ⟨(some 8), none, false, .new [.int .i64 0, .int .i64 0, .int .i64 0, .slice none 0 0, .int .i64 0]⟩,
    ⟨none, none, false, .sto 5 (.tmp 8) (.tmp 15)⟩,
    ⟨(some 9), none, false, .mov (.tmp 16)⟩]) (.seq (.seq (.ops false [
    ⟨(some 17), none, false, .mov (.tmp 9)⟩,
    ⟨(some 18), none, false, .bin .neq (.tmp 17) (.const (Value.int IntKind.i64 0))⟩,
    ⟨(some 19), none, false, .mov (.tmp 18)⟩,
    ⟨(some 20), (some (19, false)), false, .mov (.tmp 2)⟩,
    ⟨(some 21), (some (19, false)), false, .bin .lss (.tmp 20) (.const (Value.int IntKind.i64 0))⟩,
    ⟨(some 22), none, false, .pick (.tmp 19) (.const (Value.bool true)) (.tmp 21)⟩,
    ⟨(some 23), none, false, .mov (.tmp 22)⟩,
    ⟨(some 24), (some (23, false)), false, .mov (.tmp 2)⟩,
    ⟨(some 25), (some (23, false)), false, .mov (.tmp 0)⟩,
    ⟨(some 26), (some (23, false)), false, .len .sl (.tmp 25)⟩,
    ⟨(some 27), (some (23, false)), false, .bin .geq (.tmp 24) (.tmp 26)⟩,
    ⟨(some 28), none, false, .pick (.tmp 23) (.const (Value.bool true)) (.tmp 27)⟩]) (.cond (.tmp 28) (.seq (.ops false [
    ⟨(some 6), none, false, .mov (.const (Value.int IntKind.i64 0))⟩,
    ⟨(some 7), none, false, .mov (.const (Value.int IntKind.i64 2))⟩]) .ret) .skip)) (.seq (.ops false [
    ⟨(some 29), none, false, .mov (.tmp 0)⟩,
    ⟨(some 30), none, false, .mov (.tmp 2)⟩,
    ⟨(some 31), none, false, .ixs 5 (.tmp 29) (.tmp 30)⟩,
    ⟨(some 32), none, false, .ldn 5 (.tmp 31)⟩,
    ⟨(some 10), none, false, .new [.int .i64 0, .int .i64 0, .int .i64 0, .int .i64 0, .int .i64 0]⟩,
    ⟨none, none, false, .sto 5 (.tmp 10) (.tmp 32)⟩]) (.seq (.ops true [
    ⟨(some 33), none, false, .fad 2 (.tmp 10)⟩,
    ⟨(some 34), none, false, .ld1 (.tmp 33)⟩,
    ⟨(some 35), none, false, .fad 0 (.tmp 8)⟩,
    ⟨(some 36), none, false, .fad 3 (.tmp 35)⟩,
    ⟨(some 37), none, false, .ld1 (.tmp 36)⟩,
    ⟨(some 38), none, false, .mov (.tmp 2)⟩,
    ⟨(some 39), none, false, .ixs 1 (.tmp 37) (.tmp 38)⟩,
    ⟨(some 40), none, false, .ld1 (.tmp 39)⟩,
    ⟨(some 41), none, false, .bin .sub (.tmp 34) (.tmp 40)⟩,
    ⟨(some 42), none, false, .fad 0 (.tmp 8)⟩,
    ⟨(some 43), none, false, .fad 1 (.tmp 42)⟩,
    ⟨(some 44), none, false, .ld1 (.tmp 43)⟩,
    ⟨(some 45), none, false, .fad 4 (.tmp 8)⟩,
    ⟨(some 46), none, false, .ld1 (.tmp 45)⟩,
    ⟨(some 47), none, false, .bin .sub (.tmp 44) (.tmp 46)⟩,
    ⟨(some 48), none, false, .fad 3 (.tmp 10)⟩,
    ⟨(some 49), none, false, .ld1 (.tmp 48)⟩,
    ⟨(some 50), none, false, .bin .quo (.tmp 47) (.tmp 49)⟩,
    ⟨(some 51), none, false, .mnx false [.tmp 41, .tmp 50]⟩,
    ⟨(some 6), none, false, .mov (.tmp 51)⟩,
    ⟨(some 7), none, false, .mov (.const (Value.int IntKind.i64 0))⟩]) .ret))))) }
/-- bandplan/activity.of -/
def ic18 : IFn := { ntmps := 25, results := [.agg 4 5, .tmp 5], code := (.seq (.ops false [
    ⟨(some 3), none, false, .box 4 (.tmp 1)⟩,
    ⟨(some 4), none, false, .new [.int .i64 0, .int .i64 0, .int .i64 0, .slice none 0 0, .int .i64 0]⟩,
    ⟨(some 5), none, false, .mov (.const (Value.int IntKind.i64 0))⟩]) (.seq (.seq (.ops false [
    ⟨(some 8), none, false, .mov (.tmp 0)⟩,
    ⟨(some 9), none, false, .ldn 4 (.tmp 3)⟩,
    ⟨(some 10), none, false, .bsl 1 [.int .i64 0, .int .i64 0, .int .i64 0, .slice none 0 0] [(0, 4, .tmp 9)]⟩,
    ⟨(some 11), none, false, .call (.func 26) [.tmp 8, .tmp 10]⟩,
    ⟨(some 12), none, false, .una .not (.tmp 11)⟩]) (.cond (.tmp 12) (.seq (.ops false [
    ⟨(some 13), none, false, .bld [.int .i64 0, .int .i64 0, .int .i64 0, .slice none 0 0, .int .i64 0] []⟩,
    ⟨none, none, false, .sto 5 (.tmp 4) (.tmp 13)⟩,
    ⟨(some 5), none, false, .mov (.const (Value.int IntKind.i64 2))⟩]) .ret) .skip)) (.seq (.ops false [
    ⟨(some 15), none, false, .mov (.tmp 0)⟩,
    ⟨(some 16), none, false, .fad 3 (.tmp 3)⟩,
    ⟨(some 17), none, false, .ld1 (.tmp 16)⟩,
    ⟨(some 18), none, false, .call (.func 27) [.tmp 15, .tmp 17]⟩,
    ⟨(some 14), none, false, .mov (.tmp 18)⟩,
    ⟨(some 19), none, false, .ext (.tmp 14) 0⟩,
    ⟨(some 20), none, false, .ext (.tmp 14) 1⟩,
    ⟨(some 6), none, false, .mov (.tmp 19)⟩,
    ⟨(some 7), none, false, .mov (.tmp 20)⟩]) (.seq (.ops false [
    ⟨(some 21), none, false, .ldn 4 (.tmp 3)⟩,
    ⟨(some 22), none, false, .mov (.tmp 6)⟩,
    ⟨(some 23), none, false, .bld [.int .i64 0, .int .i64 0, .int .i64 0, .slice none 0 0, .int .i64 0] [(0, 4, .tmp 21), (4, 1, .tmp 22)]⟩,
    ⟨(some 24), none, false, .mov (.tmp 7)⟩,
    ⟨none, none, false, .sto 5 (.tmp 4) (.tmp 23)⟩,
    ⟨(some 5), none, false, .mov (.tmp 24)⟩]) .ret)))) }
/-- slices.Clone[[]int,int] -/
def ic19 : IFn := { ntmps := 8, results := [.tmp 2], code := (.seq (.ops false [
    ⟨(some 2), none, false, .mov (.const (Value.slice none 0 0))⟩]) (.seq (.seq (.ops false [
    ⟨(some 3), none, false, .mov (.tmp 0)⟩,
    ⟨(some 4), none, false, .eq .sli false (.tmp 3) (.const (Value.slice none 0 0))⟩]) (.cond (.tmp 4) (.seq (.ops false [
    ⟨(some 2), none, false, .mov (.const (Value.slice none 0 0))⟩]) .ret) .skip)) (.seq (.ops false [
    ⟨(some 5), none, false, .bsl 0 [] []⟩,
    ⟨(some 6), none, false, .mov (.tmp 0)⟩,
    ⟨(some 7), none, false, .app 1 8 (.tmp 5) (.tmp 6)⟩,
    ⟨(some 2), none, false, .mov (.tmp 7)⟩]) .ret))) }
/-- bandplan/bandplanref35.Alone -/
def ic20 : IFn := { ntmps := 9, results := [.tmp 4], code := (.seq (.ops false [
    ⟨(some 3), none, false, .box 4 (.tmp 1)⟩,
    ⟨(some 4), none, false, .mov (.const (Value.bool false))⟩]) (.seq (.ops false [
    ⟨(some 5), none, false, .mov (.tmp 0)⟩,
    ⟨(some 6), none, false, .ldn 4 (.tmp 3)⟩,
    ⟨(some 7), none, false, .bsl 1 [.int .i64 0, .int .i64 0, .int .i64 0, .slice none 0 0] [(0, 4, .tmp 6)]⟩,
    ⟨(some 8), none, false, .call (.func 28) [.tmp 5, .tmp 7]⟩,
    ⟨(some 4), none, false, .mov (.tmp 8)⟩]) .ret)) }
/-- bandplan/bandplanref34.Units -/
def ic21 : IFn := { ntmps := 14, results := [.tmp 4, .tmp 5], code := (.seq (.ops false [
    ⟨(some 4), none, false, .mov (.const (Value.int IntKind.i64 0))⟩,
    ⟨(some 5), none, false, .mov (.const (Value.int IntKind.i64 0))⟩]) (.seq (.seq (.ops false [
    ⟨(some 6), none, false, .mov (.tmp 0)⟩,
    ⟨(some 7), none, false, .mov (.tmp 1)⟩,
    ⟨(some 8), none, false, .call (.func 29) [.tmp 6, .tmp 7]⟩,
    ⟨(some 9), none, false, .una .not (.tmp 8)⟩]) (.cond (.tmp 9) (.seq (.ops false [
    ⟨(some 4), none, false, .mov (.const (Value.int IntKind.i64 0))⟩,
    ⟨(some 5), none, false, .mov (.const (Value.int IntKind.i64 2))⟩]) .ret) .skip)) (.seq (.ops false [
    ⟨(some 10), none, false, .mov (.tmp 0)⟩,
    ⟨(some 11), none, false, .call (.func 31) [.tmp 10]⟩,
    ⟨(some 12), none, false, .mov (.tmp 1)⟩,
    ⟨(some 13), none, false, .call (.func 30) [.tmp 11, .tmp 12]⟩,
    ⟨(some 4), none, false, .mov (.tmp 13)⟩,
    ⟨(some 5), none, false, .mov (.const (Value.int IntKind.i64 0))⟩]) .ret))) }
/-- bandplan/bandplanref34.CopyBidders -/
def ic22 : IFn := { ntmps := 25, results := [.tmp 2], code := (.seq (.ops false [
    ⟨(some 2), none, false, .mov (.const (Value.slice none 0 0))⟩]) (.seq (.ops false [
    ⟨(some 3), none, false, .mov (.const (Value.slice none 0 0))⟩]) (.seq (.seq (.ops false [
    ⟨(some 4), none, false, .mov (.const (Value.int IntKind.i64 0))⟩]) (.block 0 (.loop (.seq (.seq (.ops false [
    ⟨(some 6), none, false, .mov (.tmp 4)⟩,
    ⟨(some 7), none, false, .mov (.tmp 0)⟩,
    ⟨(some 8), none, false, .len .sl (.tmp 7)⟩,
    ⟨(some 9), none, false, .bin .lss (.tmp 6) (.tmp 8)⟩]) (.cond (.tmp 9) .skip (.exit 0))) (.seq (.block 1 (.seq (.ops false [
    ⟨(some 12), none, false, .mov (.tmp 0)⟩,
    ⟨(some 13), none, false, .mov (.tmp 4)⟩,
    ⟨(some 14), none, false, .ixs 4 (.tmp 12) (.tmp 13)⟩,
    ⟨(some 15), none, false, .ldn 4 (.tmp 14)⟩,
    ⟨(some 5), none, false, .new [.int .i64 0, .int .i64 0, .int .i64 0, .slice none 0 0]⟩,
    ⟨none, none, false, .sto 4 (.tmp 5) (.tmp 15)⟩]) (.seq (.ops false [
    ⟨(some 16), none, false, .fad 3 (.tmp 5)⟩,
    ⟨(some 17), none, false, .ld1 (.tmp 16)⟩,
    ⟨(some 18), none, false, .app 1 8 (.const (Value.slice none 0 0)) (.tmp 17)⟩,
    ⟨(some 19), none, false, .fad 3 (.tmp 5)⟩,
    ⟨none, none, false, .sto 1 (.tmp 19) (.tmp 18)⟩]) (.ops false [
    ⟨(some 20), none, false, .mov (.tmp 3)⟩,
    ⟨(some 21), none, false, .ldn 4 (.tmp 5)⟩,
    ⟨(some 22), none, false, .bsl 1 [.int .i64 0, .int .i64 0, .int .i64 0, .slice none 0 0] [(0, 4, .tmp 21)]⟩,
    ⟨(some 23), none, false, .app 4 48 (.tmp 20) (.tmp 22)⟩,
    ⟨(some 3), none, false, .mov (.tmp 23)⟩])))) (.ops false [
    ⟨(some 10), none, false, .mov (.tmp 4)⟩,
    ⟨(some 11), none, false, .bin .add (.tmp 10) (.const (Value.int IntKind.i64 1))⟩,
    ⟨(some 4), none, false, .mov (.tmp 11)⟩])))))) (.seq (.ops false [
    ⟨(some 24), none, false, .mov (.tmp 3)⟩,
    ⟨(some 2), none, false, .mov (.tmp 24)⟩]) .ret)))) }
/-- bandplan/bandplanref34.SameBidders -/
def ic23 : IFn := { ntmps := 68, results := [.tmp 4], code := (.seq (.ops false [
    ⟨(some 4), none, false, .mov (.const (Value.bool false))⟩]) (.seq (.seq (.ops false [
    ⟨(some 6), none, false, .mov (.tmp 0)⟩,
    ⟨(some 7), none, false, .len .sl (.tmp 6)⟩,
    ⟨(some 8), none, false, .mov (.tmp 1)⟩,
    ⟨(some 9), none, false, .len .sl (.tmp 8)⟩,
    ⟨(some 10), none, false, .bin .neq (.tmp 7) (.tmp 9)⟩]) (.cond (.tmp 10) (.seq (.ops false [
    ⟨(some 4), none, false, .mov (.const (Value.bool false))⟩]) .ret) .skip)) (.seq (.seq (.ops false [
    ⟨(some 5), none, false, .mov (.const (Value.int IntKind.i64 0))⟩]) (.block 0 (.loop (.seq (.seq (.ops false [
    ⟨(some 11), none, false, .mov (.tmp 5)⟩,
    ⟨(some 12), none, false, .mov (.tmp 0)⟩,
    ⟨(some 13), none, false, .len .sl (.tmp 12)⟩,
    ⟨(some 14), none, false, .bin .lss (.tmp 11) (.tmp 13)⟩]) (.cond (.tmp 14) .skip (.exit 0))) (.seq (.block 1 (.seq (.ops true [
    ⟨(some 17), none, false, .mov (.tmp 0)⟩,
    ⟨(some 18), none, false, .mov (.tmp 5)⟩,
    ⟨(some 19), none, false, .ixs 4 (.tmp 17) (.tmp 18)⟩,
    ⟨(some 20), none, false, .fad 0 (.tmp 19)⟩,
    ⟨(some 21), none, false, .ld1 (.tmp 20)⟩,
    ⟨(some 22), none, false, .mov (.tmp 1)⟩,
    ⟨(some 23), none, false, .mov (.tmp 5)⟩,
    ⟨(some 24), none, false, .ixs 4 (.tmp 22) (.tmp 23)⟩,
    ⟨(some 25), none, false, .fad 0 (.tmp 24)⟩,
    ⟨(some 26), none, false, .ld1 (.tmp 25)⟩,
    ⟨(some 27), none, false, .bin .neq (.tmp 21) (.tmp 26)⟩,
    ⟨(some 28), none, false, .mov (.tmp 27)⟩,
    ⟨(some 29), (some (28, false)), false, .mov (.tmp 0)⟩,
    ⟨(some 30), (some (28, false)), false, .mov (.tmp 5)⟩,
    ⟨(some 31), (some (28, false)), false, .ixs 4 (.tmp 29) (.tmp 30)⟩,
    ⟨(some 32), (some (28, false)), false, .fad 1 (.tmp 31)⟩,
    ⟨(some 33), (some (28, false)), false, .ld1 (.tmp 32)⟩,
    ⟨(some 34), (some (28, false)), false, .mov (.tmp 1)⟩,
    ⟨(some 35), (some (28, false)), false, .mov (.tmp 5)⟩,
    ⟨(some 36), (some (28, false)), false, .ixs 4 (.tmp 34) (.tmp 35)⟩,
    ⟨(some 37), (some (28, false)), false, .fad 1 (.tmp 36)⟩,
    ⟨(some 38), (some (28, false)), false, .ld1 (.tmp 37)⟩,
    ⟨(some 39), (some (28, false)), false, .bin .neq (.tmp 33) (.tmp 38)⟩,
    ⟨(some 40), none, false, .pick (.tmp 28) (.const (Value.bool true)) (.tmp 39)⟩,
    ⟨(some 41), none, false, .mov (.tmp 40)⟩,
    ⟨(some 42), (some (41, false)), false, .mov (.tmp 0)⟩,
    ⟨(some 43), (some (41, false)), false, .mov (.tmp 5)⟩,
    ⟨(some 44), (some (41, false)), false, .ixs 4 (.tmp 42) (.tmp 43)⟩,
    ⟨(some 45), (some (41, false)), false, .fad 2 (.tmp 44)⟩,
    ⟨(some 46), (some (41, false)), false, .ld1 (.tmp 45)⟩,
    ⟨(some 47), (some (41, false)), false, .mov (.tmp 1)⟩,
    ⟨(some 48), (some (41, false)), false, .mov (.tmp 5)⟩,
    ⟨(some 49), (some (41, false)), false, .ixs 4 (.tmp 47) (.tmp 48)⟩,
    ⟨(some 50), (some (41, false)), false, .fad 2 (.tmp 49)⟩,
    ⟨(some 51), (some (41, false)), false, .ld1 (.tmp 50)⟩,
    ⟨(some 52), (some (41, false)), false, .bin .neq (.tmp 46) (.tmp 51)⟩,
    ⟨(some 53), none, false, .pick (.tmp 41) (.const (Value.bool true)) (.tmp 52)⟩,
    ⟨(some 54), none, false, .mov (.tmp 53)⟩,
    ⟨(some 55), (some (54, false)), false, .mov (.tmp 0)⟩,
    ⟨(some 56), (some (54, false)), false, .mov (.tmp 5)⟩,
    ⟨(some 57), (some (54, false)), false, .ixs 4 (.tmp 55) (.tmp 56)⟩,
    ⟨(some 58), (some (54, false)), false, .fad 3 (.tmp 57)⟩,
    ⟨(some 59), (some (54, false)), false, .ld1 (.tmp 58)⟩,
    ⟨(some 60), (some (54, false)), false, .mov (.tmp 1)⟩,
    ⟨(some 61), (some (54, false)), false, .mov (.tmp 5)⟩,
    ⟨(some 62), (some (54, false)), false, .ixs 4 (.tmp 60) (.tmp 61)⟩,
    ⟨(some 63), (some (54, false)), false, .fad 3 (.tmp 62)⟩,
    ⟨(some 64), (some (54, false)), false, .ld1 (.tmp 63)⟩,
    ⟨(some 65), (some (54, false)), false, .call (.func 32) [.tmp 59, .tmp 64]⟩,
    ⟨(some 66), (some (54, false)), false, .una .not (.tmp 65)⟩,
    ⟨(some 67), none, false, .pick (.tmp 54) (.const (Value.bool true)) (.tmp 66)⟩]) (.cond (.tmp 67) (.seq (.ops false [
    ⟨(some 4), none, false, .mov (.const (Value.bool false))⟩]) .ret) .skip))) (.ops false [
    ⟨(some 15), none, false, .mov (.tmp 5)⟩,
    ⟨(some 16), none, false, .bin .add (.tmp 15) (.const (Value.int IntKind.i64 1))⟩,
    ⟨(some 5), none, false, .mov (.tmp 16)⟩])))))) (.seq (.ops false [
    ⟨(some 4), none, false, .mov (.const (Value.bool true))⟩]) .ret)))) }
/-- slices.ContainsFunc[[]int,int] -/
def ic24 : IFn := { ntmps := 9, results := [.tmp 4], code := (.seq (.ops false [
    ⟨(some 4), none, false, .mov (.const (Value.bool false))⟩]) (.seq (.ops false [
    ⟨(some 5), none, false, .mov (.tmp 0)⟩,
    ⟨(some 6), none, false, .mov (.tmp 1)⟩,
    ⟨(some 7), none, false, .call (.func 33) [.tmp 5, .tmp 6]⟩,
    ⟨(some 8), none, false, .bin .geq (.tmp 7) (.const (Value.int IntKind.i64 0))⟩,
    ⟨(some 4), none, false, .mov (.tmp 8)⟩]) .ret)) }
/-- bandplan/activity.After$1 -/
def ic25 : IFn := { ntmps := 5, results := [.tmp 2], code := (.seq (.ops false [
    ⟨(some 2), none, false, .mov (.const (Value.bool false))⟩]) (.seq (.ops false [
    ⟨(some 3), none, false, .mov (.tmp 0)⟩,
    ⟨(some 4), none, false, .bin .lss (.tmp 3) (.const (Value.int IntKind.i64 0))⟩,
    ⟨(some 2), none, false, .mov (.tmp 4)⟩]) .ret)) }
/-- bandplan/demand.ValidBidders -/
def ic26 : IFn := { ntmps := 34, results := [.tmp 4], code := (.seq (.ops false [
    ⟨(some 4), none, false, .mov (.const (Value.bool false))⟩]) (.seq (.ops false [
    ⟨(some 5), none, false, .mov (.const (Value.int IntKind.i64 (-1)))⟩]) (.seq (.seq (.ops false [
    ⟨(some 8), none, false, .mov (.tmp 1)⟩,
    ⟨(some 9), none, false, .len .sl (.tmp 8)⟩,
    ⟨(some 10), none, false, .mov (.const (Value.int IntKind.i64 0))⟩]) (.block 0 (.loop (.seq (.ops false [
    ⟨(some 11), none, false, .bin .lss (.tmp 10) (.tmp 9)⟩]) (.seq (.cond (.tmp 11) .skip (.exit 0)) (.seq (.block 1 (.seq (.ops false [
    ⟨(some 12), none, false, .ixs 4 (.tmp 8) (.tmp 10)⟩,
    ⟨(some 13), none, false, .ldn 4 (.tmp 12)⟩,
    ⟨(some 7), none, false, .new [.int .i64 0, .int .i64 0, .int .i64 0, .slice none 0 0]⟩,
    ⟨none, none, false, .sto 4 (.tmp 7) (.tmp 13)⟩]) (.seq (.seq (.ops false [
    ⟨(some 14), none, false, .fad 0 (.tmp 7)⟩,
    ⟨(some 15), none, false, .ld1 (.tmp 14)⟩,
    ⟨(some 16), none, false, .mov (.tmp 5)⟩,
    ⟨(some 17), none, false, .bin .leq (.tmp 15) (.tmp 16)⟩,
    ⟨(some 18), none, false, .mov (.tmp 17)⟩,
    ⟨(some 19), (some (18, false)), false, .fad 0 (.tmp 7)⟩,
    ⟨(some 20), (some (18, false)), false, .ld1 (.tmp 19)⟩,
    ⟨(some 21), (some (18, false)), false, .bin .geq (.tmp 20) (.const (Value.int IntKind.i64 32))⟩,
    ⟨(some 22), none, false, .pick (.tmp 18) (.const (Value.bool true)) (.tmp 21)⟩,
    ⟨(some 23), none, false, .mov (.tmp 22)⟩,
    ⟨(some 24), (some (23, false)), false, .mov (.tmp 0)⟩,
    ⟨(some 25), (some (23, false)), false, .ldn 4 (.tmp 7)⟩,
    ⟨(some 26), (some (23, false)), false, .call (.func 34) [.tmp 24, .tmp 25]⟩,
    ⟨(some 27), (some (23, false)), false, .una .not (.tmp 26)⟩,
    ⟨(some 28), none, false, .pick (.tmp 23) (.const (Value.bool true)) (.tmp 27)⟩]) (.cond (.tmp 28) (.seq (.ops false [
    ⟨(some 4), none, false, .mov (.const (Value.bool false))⟩]) .ret) .skip)) (.ops false [
    ⟨(some 29), none, false, .fad 0 (.tmp 7)⟩,
    ⟨(some 30), none, false, .ld1 (.tmp 29)⟩,
    ⟨(some 5), none, false, .mov (.tmp 30)⟩])))) (.ops false [
    ⟨(some 31), none, false, .bin .add (.tmp 10) (.const (Value.int IntKind.i64 1))⟩,
    ⟨(some 10), none, false, .mov (.tmp 31)⟩]))))))) (.seq (.ops false [
    ⟨(some 32), none, false, .mov (.tmp 0)⟩,
    ⟨(some 33), none, false, .call (.func 35) [.tmp 32]⟩,
    ⟨(some 4), none, false, .mov (.tmp 33)⟩]) .ret)))) }
/-- bandplan/demand.Units -/
def ic27 : IFn := { ntmps := 13, results := [.tmp 4, .tmp 5], code := (.seq (.ops false [
    ⟨(some 2), none, false, .box 1 (.tmp 0)⟩,
    ⟨(some 4), none, false, .mov (.const (Value.int IntKind.i64 0))⟩,
    ⟨(some 5), none, false, .mov (.const (Value.int IntKind.i64 0))⟩]) (.seq (.seq (.ops false [
    ⟨(some 6), none, false, .ld1 (.tmp 2)⟩,
    ⟨(some 7), none, false, .mov (.tmp 1)⟩,
    ⟨(some 8), none, false, .call (.func 36) [.tmp 6, .tmp 7]⟩,
    ⟨(some 9), none, false, .una .not (.tmp 8)⟩]) (.cond (.tmp 9) (.seq (.ops false [
    ⟨(some 4), none, false, .mov (.const (Value.int IntKind.i64 0))⟩,
    ⟨(some 5), none, false, .mov (.const (Value.int IntKind.i64 2))⟩]) .ret) .skip)) (.seq (.ops false [
    ⟨(some 10), none, false, .mov (.tmp 1)⟩,
    ⟨(some 11), none, false, .fun_ (Fn.func 38) [] [.tmp 2]⟩,
    ⟨(some 12), none, false, .call (.func 37) [.tmp 10, .tmp 11]⟩,
    ⟨(some 4), none, false, .mov (.tmp 12)⟩,
    ⟨(some 5), none, false, .mov (.const (Value.int IntKind.i64 0))⟩]) .ret))) }
/-- bandplan/bandplanref34.Bidders -/
def ic28 : IFn := { ntmps := 79, results := [.tmp 4], code := (.seq (.ops false [
    ⟨(some 4), none, false, .mov (.const (Value.bool false))⟩]) (.seq (.seq (.ops false [
    ⟨(some 5), none, false, .mov (.const (Value.int IntKind.i64 0))⟩]) (.block 0 (.loop (.seq (.seq (.ops false [
    ⟨(some 9), none, false, .mov (.tmp 5)⟩,
    ⟨(some 10), none, false, .mov (.tmp 1)⟩,
    ⟨(some 11), none, false, .len .sl (.tmp 10)⟩,
    ⟨(some 12), none, false, .bin .lss (.tmp 9) (.tmp 11)⟩]) (.cond (.tmp 12) .skip (.exit 0))) (.seq (.block 1 (.seq (.ops false [
    ⟨(some 15), none, false, .mov (.tmp 1)⟩,
    ⟨(some 16), none, false, .mov (.tmp 5)⟩,
    ⟨(some 17), none, false, .ixs 4 (.tmp 15) (.tmp 16)⟩,
    ⟨(some 18), none, false, .ldn 4 (.tmp 17)⟩,
    ⟨(some 6), none, false, .new [.int .i64 0, .int .i64 0, .int .i64 0, .slice none 0 0]⟩,
    ⟨none, none, false, .sto 4 (.tmp 6) (.tmp 18)⟩]) (.seq (.seq (.ops true [
    ⟨(some 19), none, false, .fad 0 (.tmp 6)⟩,
    ⟨(some 20), none, false, .ld1 (.tmp 19)⟩,
    ⟨(some 21), none, false, .bin .lss (.tmp 20) (.const (Value.int IntKind.i64 0))⟩,
    ⟨(some 22), none, false, .mov (.tmp 21)⟩,
    ⟨(some 23), (some (22, false)), false, .fad 0 (.tmp 6)⟩,
    ⟨(some 24), (some (22, false)), false, .ld1 (.tmp 23)⟩,
    ⟨(some 25), (some (22, false)), false, .bin .gtr (.tmp 24) (.const (Value.int IntKind.i64 31))⟩,
    ⟨(some 26), none, false, .pick (.tmp 22) (.const (Value.bool true)) (.tmp 25)⟩,
    ⟨(some 27), none, false, .mov (.tmp 26)⟩,
    ⟨(some 28), (some (27, false)), false, .fad 1 (.tmp 6)⟩,
    ⟨(some 29), (some (27, false)), false, .ld1 (.tmp 28)⟩,
    ⟨(some 30), (some (27, false)), false, .bin .lss (.tmp 29) (.const (Value.int IntKind.i64 0))⟩,
    ⟨(some 31), none, false, .pick (.tmp 27) (.const (Value.bool true)) (.tmp 30)⟩,
    ⟨(some 32), none, false, .mov (.tmp 31)⟩,
    ⟨(some 33), (some (32, false)), false, .fad 1 (.tmp 6)⟩,
    ⟨(some 34), (some (32, false)), false, .ld1 (.tmp 33)⟩,
    ⟨(some 35), (some (32, false)), false, .bin .gtr (.tmp 34) (.const (Value.int IntKind.i64 76800000))⟩,
    ⟨(some 36), none, false, .pick (.tmp 32) (.const (Value.bool true)) (.tmp 35)⟩,
    ⟨(some 37), none, false, .mov (.tmp 36)⟩,
    ⟨(some 38), (some (37, false)), false, .fad 2 (.tmp 6)⟩,
    ⟨(some 39), (some (37, false)), false, .ld1 (.tmp 38)⟩,
    ⟨(some 40), (some (37, false)), false, .bin .lss (.tmp 39) (.const (Value.int IntKind.i64 0))⟩,
    ⟨(some 41), none, false, .pick (.tmp 37) (.const (Value.bool true)) (.tmp 40)⟩,
    ⟨(some 42), none, false, .mov (.tmp 41)⟩,
    ⟨(some 43), (some (42, false)), false, .fad 2 (.tmp 6)⟩,
    ⟨(some 44), (some (42, false)), false, .ld1 (.tmp 43)⟩,
    ⟨(some 45), (some (42, false)), false, .bin .gtr (.tmp 44) (.const (Value.int IntKind.i64 3))⟩,
    ⟨(some 46), none, false, .pick (.tmp 42) (.const (Value.bool true)) (.tmp 45)⟩,
    ⟨(some 47), none, false, .mov (.tmp 46)⟩,
    ⟨(some 48), (some (47, false)), false, .mov (.tmp 5)⟩,
    ⟨(some 49), (some (47, false)), false, .bin .gtr (.tmp 48) (.const (Value.int IntKind.i64 0))⟩,
    ⟨(some 50), (some (47, false)), false, .mov (.tmp 49)⟩,
    ⟨(some 51), (some (50, true)), false, .fad 0 (.tmp 6)⟩,
    ⟨(some 52), (some (50, true)), false, .ld1 (.tmp 51)⟩,
    ⟨(some 53), (some (50, true)), false, .mov (.tmp 1)⟩,
    ⟨(some 54), (some (50, true)), false, .mov (.tmp 5)⟩,
    ⟨(some 55), (some (50, true)), false, .bin .sub (.tmp 54) (.const (Value.int IntKind.i64 1))⟩,
    ⟨(some 56), (some (50, true)), false, .ixs 4 (.tmp 53) (.tmp 55)⟩,
    ⟨(some 57), (some (50, true)), false, .fad 0 (.tmp 56)⟩,
    ⟨(some 58), (some (50, true)), false, .ld1 (.tmp 57)⟩,
    ⟨(some 59), (some (50, true)), false, .bin .leq (.tmp 52) (.tmp 58)⟩,
    ⟨(some 60), (some (47, false)), false, .pick (.tmp 50) (.tmp 59) (.const (Value.bool false))⟩,
    ⟨(some 61), none, false, .pick (.tmp 47) (.const (Value.bool true)) (.tmp 60)⟩]) (.cond (.tmp 61) (.seq (.ops false [
    ⟨(some 4), none, false, .mov (.const (Value.bool false))⟩]) .ret) .skip)) (.seq (.ops false [
    ⟨(some 63), none, false, .mov (.tmp 0)⟩,
    ⟨(some 64), none, false, .fad 3 (.tmp 6)⟩,
    ⟨(some 65), none, false, .ld1 (.tmp 64)⟩,
    ⟨(some 66), none, false, .call (.func 21) [.tmp 63, .tmp 65]⟩,
    ⟨(some 62), none, false, .mov (.tmp 66)⟩,
    ⟨(some 67), none, false, .ext (.tmp 62) 0⟩,
    ⟨(some 68), none, false, .ext (.tmp 62) 1⟩,
    ⟨(some 7), none, false, .mov (.tmp 67)⟩,
    ⟨(some 8), none, false, .mov (.tmp 68)⟩]) (.seq (.ops false [
    ⟨(some 69), none, false, .mov (.tmp 8)⟩,
    ⟨(some 70), none, false, .bin .neq (.tmp 69) (.const (Value.int IntKind.i64 0))⟩,
    ⟨(some 71), none, false, .mov (.tmp 70)⟩,
    ⟨(some 72), (some (71, false)), false, .mov (.tmp 7)⟩,
    ⟨(some 73), (some (71, false)), false, .fad 1 (.tmp 6)⟩,
    ⟨(some 74), (some (71, false)), false, .ld1 (.tmp 73)⟩,
    ⟨(some 75), (some (71, false)), false, .bin .gtr (.tmp 72) (.tmp 74)⟩,
    ⟨(some 76), none, false, .pick (.tmp 71) (.const (Value.bool true)) (.tmp 75)⟩]) (.cond (.tmp 76) (.seq (.ops false [
    ⟨(some 4), none, false, .mov (.const (Value.bool false))⟩]) .ret) .skip)))))) (.ops false [
    ⟨(some 13), none, false, .mov (.tmp 5)⟩,
    ⟨(some 14), none, false, .bin .add (.tmp 13) (.const (Value.int IntKind.i64 1))⟩,
    ⟨(some 5), none, false, .mov (.tmp 14)⟩])))))) (.seq (.ops false [
    ⟨(some 77), none, false, .mov (.tmp 0)⟩,
    ⟨(some 78), none, false, .call (.func 39) [.tmp 77]⟩,
    ⟨(some 4), none, false, .mov (.tmp 78)⟩]) .ret))) }
/-- bandplan/bandplanref34.Valid -/
def ic29 : IFn := { ntmps := 39, results := [.tmp 4], code := (.seq (.ops false [
    ⟨(some 4), none, false, .mov (.const (Value.bool false))⟩]) (.seq (.seq (.ops false [
    ⟨(some 6), none, false, .mov (.tmp 0)⟩,
    ⟨(some 7), none, false, .call (.func 39) [.tmp 6]⟩,
    ⟨(some 8), none, false, .una .not (.tmp 7)⟩,
    ⟨(some 9), none, false, .mov (.tmp 8)⟩,
    ⟨(some 10), (some (9, false)), false, .mov (.tmp 1)⟩,
    ⟨(some 11), (some (9, false)), false, .len .sl (.tmp 10)⟩,
    ⟨(some 12), (some (9, false)), false, .mov (.tmp 0)⟩,
    ⟨(some 13), (some (9, false)), false, .len .sl (.tmp 12)⟩,
    ⟨(some 14), (some (9, false)), false, .bin .neq (.tmp 11) (.tmp 13)⟩,
    ⟨(some 15), none, false, .pick (.tmp 9) (.const (Value.bool true)) (.tmp 14)⟩]) (.cond (.tmp 15) (.seq (.ops false [
    ⟨(some 4), none, false, .mov (.const (Value.bool false))⟩]) .ret) .skip)) (.seq (.seq (.ops false [
    ⟨(some 5), none, false, .mov (.const (Value.int IntKind.i64 0))⟩]) (.block 0 (.loop (.seq (.seq (.ops false [
    ⟨(some 16), none, false, .mov (.tmp 5)⟩,
    ⟨(some 17), none, false, .mov (.tmp 0)⟩,
    ⟨(some 18), none, false, .len .sl (.tmp 17)⟩,
    ⟨(some 19), none, false, .bin .lss (.tmp 16) (.tmp 18)⟩]) (.cond (.tmp 19) .skip (.exit 0))) (.seq (.block 1 (.seq (.ops true [
    ⟨(some 22), none, false, .mov (.tmp 1)⟩,
    ⟨(some 23), none, false, .mov (.tmp 5)⟩,
    ⟨(some 24), none, false, .ixs 1 (.tmp 22) (.tmp 23)⟩,
    ⟨(some 25), none, false, .ld1 (.tmp 24)⟩,
    ⟨(some 26), none, false, .bin .lss (.tmp 25) (.const (Value.int IntKind.i64 0))⟩,
    ⟨(some 27), none, false, .mov (.tmp 26)⟩,
    ⟨(some 28), (some (27, false)), false, .mov (.tmp 1)⟩,
    ⟨(some 29), (some (27, false)), false, .mov (.tmp 5)⟩,
    ⟨(some 30), (some (27, false)), false, .ixs 1 (.tmp 28) (.tmp 29)⟩,
    ⟨(some 31), (some (27, false)), false, .ld1 (.tmp 30)⟩,
    ⟨(some 32), (some (27, false)), false, .mov (.tmp 0)⟩,
    ⟨(some 33), (some (27, false)), false, .mov (.tmp 5)⟩,
    ⟨(some 34), (some (27, false)), false, .ixs 5 (.tmp 32) (.tmp 33)⟩,
    ⟨(some 35), (some (27, false)), false, .fad 2 (.tmp 34)⟩,
    ⟨(some 36), (some (27, false)), false, .ld1 (.tmp 35)⟩,
    ⟨(some 37), (some (27, false)), false, .bin .gtr (.tmp 31) (.tmp 36)⟩,
    ⟨(some 38), none, false, .pick (.tmp 27) (.const (Value.bool true)) (.tmp 37)⟩]) (.cond (.tmp 38) (.seq (.ops false [
    ⟨(some 4), none, false, .mov (.const (Value.bool false))⟩]) .ret) .skip))) (.ops false [
    ⟨(some 20), none, false, .mov (.tmp 5)⟩,
    ⟨(some 21), none, false, .bin .add (.tmp 20) (.const (Value.int IntKind.i64 1))⟩,
    ⟨(some 5), none, false, .mov (.tmp 21)⟩])))))) (.seq (.ops false [
    ⟨(some 4), none, false, .mov (.const (Value.bool true))⟩]) .ret)))) }
/-- bandplan/bandplanref34.Sum -/
def ic30 : IFn := { ntmps := 31, results := [.tmp 4], code := (.seq (.ops false [
    ⟨(some 4), none, false, .mov (.const (Value.int IntKind.i64 0))⟩]) (.seq (.ops false [
    ⟨(some 5), none, false, .mov (.const (Value.int IntKind.i64 0))⟩]) (.seq (.seq (.ops false [
    ⟨(some 6), none, false, .mov (.const (Value.int IntKind.i64 0))⟩]) (.block 0 (.loop (.seq (.seq (.ops false [
    ⟨(some 7), none, false, .mov (.tmp 6)⟩,
    ⟨(some 8), none, false, .mov (.tmp 0)⟩,
    ⟨(some 9), none, false, .len .sl (.tmp 8)⟩,
    ⟨(some 10), none, false, .bin .lss (.tmp 7) (.tmp 9)⟩,
    ⟨(some 11), none, false, .mov (.tmp 10)⟩,
    ⟨(some 12), (some (11, true)), false, .mov (.tmp 6)⟩,
    ⟨(some 13), (some (11, true)), false, .mov (.tmp 1)⟩,
    ⟨(some 14), (some (11, true)), false, .len .sl (.tmp 13)⟩,
    ⟨(some 15), (some (11, true)), false, .bin .lss (.tmp 12) (.tmp 14)⟩,
    ⟨(some 16), none, false, .pick (.tmp 11) (.tmp 15) (.const (Value.bool false))⟩]) (.cond (.tmp 16) .skip (.exit 0))) (.seq (.block 1 (.ops true [
    ⟨(some 19), none, false, .mov (.tmp 5)⟩,
    ⟨(some 20), none, false, .mov (.tmp 0)⟩,
    ⟨(some 21), none, false, .mov (.tmp 6)⟩,
    ⟨(some 22), none, false, .ixs 1 (.tmp 20) (.tmp 21)⟩,
    ⟨(some 23), none, false, .ld1 (.tmp 22)⟩,
    ⟨(some 24), none, false, .mov (.tmp 1)⟩,
    ⟨(some 25), none, false, .mov (.tmp 6)⟩,
    ⟨(some 26), none, false, .ixs 1 (.tmp 24) (.tmp 25)⟩,
    ⟨(some 27), none, false, .ld1 (.tmp 26)⟩,
    ⟨(some 28), none, false, .bin .mul (.tmp 23) (.tmp 27)⟩,
    ⟨(some 29), none, false, .bin .add (.tmp 19) (.tmp 28)⟩,
    ⟨(some 5), none, false, .mov (.tmp 29)⟩])) (.ops false [
    ⟨(some 17), none, false, .mov (.tmp 6)⟩,
    ⟨(some 18), none, false, .bin .add (.tmp 17) (.const (Value.int IntKind.i64 1))⟩,
    ⟨(some 6), none, false, .mov (.tmp 18)⟩])))))) (.seq (.ops false [
    ⟨(some 30), none, false, .mov (.tmp 5)⟩,
    ⟨(some 4), none, false, .mov (.tmp 30)⟩]) .ret)))) }
/-- bandplan/bandplanref34.Weights -/
def ic31 : IFn := { ntmps := 20, results := [.tmp 2], code := (.seq (.ops false [
    ⟨(some 2), none, false, .mov (.const (Value.slice none 0 0))⟩]) (.seq (.ops false [
    ⟨(some 3), none, false, .mov (.const (Value.slice none 0 0))⟩]) (.seq (.seq (.ops false [
    ⟨(some 4), none, false, .mov (.const (Value.int IntKind.i64 0))⟩]) (.block 0 (.loop (.seq (.seq (.ops false [
    ⟨(some 5), none, false, .mov (.tmp 4)⟩,
    ⟨(some 6), none, false, .mov (.tmp 0)⟩,
    ⟨(some 7), none, false, .len .sl (.tmp 6)⟩,
    ⟨(some 8), none, false, .bin .lss (.tmp 5) (.tmp 7)⟩]) (.cond (.tmp 8) .skip (.exit 0))) (.seq (.block 1 (.ops false [
    ⟨(some 11), none, false, .mov (.tmp 3)⟩,
    ⟨(some 12), none, false, .mov (.tmp 0)⟩,
    ⟨(some 13), none, false, .mov (.tmp 4)⟩,
    ⟨(some 14), none, false, .ixs 5 (.tmp 12) (.tmp 13)⟩,
    ⟨(some 15), none, false, .fad 3 (.tmp 14)⟩,
    ⟨(some 16), none, false, .ld1 (.tmp 15)⟩,
    ⟨(some 17), none, false, .bsl 1 [.int .i64 0] [(0, 1, .tmp 16)]⟩,
    ⟨(some 18), none, false, .app 1 8 (.tmp 11) (.tmp 17)⟩,
    ⟨(some 3), none, false, .mov (.tmp 18)⟩])) (.ops false [
    ⟨(some 9), none, false, .mov (.tmp 4)⟩,
    ⟨(some 10), none, false, .bin .add (.tmp 9) (.const (Value.int IntKind.i64 1))⟩,
    ⟨(some 4), none, false, .mov (.tmp 10)⟩])))))) (.seq (.ops false [
    ⟨(some 19), none, false, .mov (.tmp 3)⟩,
    ⟨(some 2), none, false, .mov (.tmp 19)⟩]) .ret)))) }
/-- bandplan/bandplanref34.Same -/
def ic32 : IFn := { ntmps := 26, results := [.tmp 4], code := (.seq (.ops false [
    ⟨(some 4), none, false, .mov (.const (Value.bool false))⟩]) (.seq (.seq (.ops false [
    ⟨(some 6), none, false, .mov (.tmp 0)⟩,
    ⟨(some 7), none, false, .len .sl (.tmp 6)⟩,
    ⟨(some 8), none, false, .mov (.tmp 1)⟩,
    ⟨(some 9), none, false, .len .sl (.tmp 8)⟩,
    ⟨(some 10), none, false, .bin .neq (.tmp 7) (.tmp 9)⟩]) (.cond (.tmp 10) (.seq (.ops false [
    ⟨(some 4), none, false, .mov (.const (Value.bool false))⟩]) .ret) .skip)) (.seq (.seq (.ops false [
    ⟨(some 5), none, false, .mov (.const (Value.int IntKind.i64 0))⟩]) (.block 0 (.loop (.seq (.seq (.ops false [
    ⟨(some 11), none, false, .mov (.tmp 5)⟩,
    ⟨(some 12), none, false, .mov (.tmp 0)⟩,
    ⟨(some 13), none, false, .len .sl (.tmp 12)⟩,
    ⟨(some 14), none, false, .bin .lss (.tmp 11) (.tmp 13)⟩]) (.cond (.tmp 14) .skip (.exit 0))) (.seq (.block 1 (.seq (.ops true [
    ⟨(some 17), none, false, .mov (.tmp 0)⟩,
    ⟨(some 18), none, false, .mov (.tmp 5)⟩,
    ⟨(some 19), none, false, .ixs 1 (.tmp 17) (.tmp 18)⟩,
    ⟨(some 20), none, false, .ld1 (.tmp 19)⟩,
    ⟨(some 21), none, false, .mov (.tmp 1)⟩,
    ⟨(some 22), none, false, .mov (.tmp 5)⟩,
    ⟨(some 23), none, false, .ixs 1 (.tmp 21) (.tmp 22)⟩,
    ⟨(some 24), none, false, .ld1 (.tmp 23)⟩,
    ⟨(some 25), none, false, .bin .neq (.tmp 20) (.tmp 24)⟩]) (.cond (.tmp 25) (.seq (.ops false [
    ⟨(some 4), none, false, .mov (.const (Value.bool false))⟩]) .ret) .skip))) (.ops false [
    ⟨(some 15), none, false, .mov (.tmp 5)⟩,
    ⟨(some 16), none, false, .bin .add (.tmp 15) (.const (Value.int IntKind.i64 1))⟩,
    ⟨(some 5), none, false, .mov (.tmp 16)⟩])))))) (.seq (.ops false [
    ⟨(some 4), none, false, .mov (.const (Value.bool true))⟩]) .ret)))) }
/-- slices.IndexFunc[[]int,int] -/
def ic33 : IFn := { ntmps := 19, results := [.tmp 4], code := (.seq (.ops false [
    ⟨(some 4), none, false, .mov (.const (Value.int IntKind.i64 0))⟩]) (.seq (.seq (.ops false [
    ⟨(some 6), none, false, .mov (.tmp 0)⟩,
    ⟨(some 7), none, false, .len .sl (.tmp 6)⟩,
    ⟨(some 8), none, false, .mov (.const (Value.int IntKind.i64 0))⟩]) (.block 0 (.loop (.seq (.ops false [
    ⟨(some 9), none, false, .bin .lss (.tmp 8) (.tmp 7)⟩]) (.seq (.cond (.tmp 9) .skip (.exit 0)) (.seq (.block 1 (.seq (.ops false [
    ⟨(some 10), none, false, .mov (.tmp 8)⟩,
    ⟨(some 5), none, false, .mov (.tmp 10)⟩]) (.seq (.ops false [
    ⟨(some 11), none, false, .mov (.tmp 1)⟩,
    ⟨(some 12), none, false, .mov (.tmp 0)⟩,
    ⟨(some 13), none, false, .mov (.tmp 5)⟩,
    ⟨(some 14), none, false, .ixs 1 (.tmp 12) (.tmp 13)⟩,
    ⟨(some 15), none, false, .ld1 (.tmp 14)⟩,
    ⟨(some 16), none, false, .call (.tmp 11) [.tmp 15]⟩]) (.cond (.tmp 16) (.seq (.ops false [
    ⟨(some 17), none, false, .mov (.tmp 5)⟩,
    ⟨(some 4), none, false, .mov (.tmp 17)⟩]) .ret) .skip)))) (.ops false [
    ⟨(some 18), none, false, .bin .add (.tmp 8) (.const (Value.int IntKind.i64 1))⟩,
    ⟨(some 8), none, false, .mov (.tmp 18)⟩]))))))) (.seq (.ops false [
    ⟨(some 4), none, false, .mov (.const (Value.int IntKind.i64 (-1)))⟩]) .ret))) }
/-- bandplan/demand.valid -/
def ic34 : IFn := { ntmps := 37, results := [.tmp 4], code := (.seq (.ops false [
    ⟨(some 3), none, false, .box 4 (.tmp 1)⟩,
    ⟨(some 4), none, false, .mov (.const (Value.bool false))⟩]) (.seq (.ops false [
    ⟨(some 8), none, false, .mov (.tmp 0)⟩,
    ⟨(some 9), none, false, .fad 3 (.tmp 3)⟩,
    ⟨(some 10), none, false, .ld1 (.tmp 9)⟩,
    ⟨(some 11), none, false, .call (.func 27) [.tmp 8, .tmp 10]⟩,
    ⟨(some 7), none, false, .mov (.tmp 11)⟩,
    ⟨(some 12), none, false, .ext (.tmp 7) 0⟩,
    ⟨(some 13), none, false, .ext (.tmp 7) 1⟩,
    ⟨(some 5), none, false, .mov (.tmp 12)⟩,
    ⟨(some 6), none, false, .mov (.tmp 13)⟩]) (.seq (.ops false [
    ⟨(some 14), none, false, .mov (.tmp 6)⟩,
    ⟨(some 15), none, false, .bin .eql (.tmp 14) (.const (Value.int IntKind.i64 0))⟩,
    ⟨(some 16), none, false, .mov (.tmp 15)⟩,
    ⟨(some 17), (some (16, true)), false, .mov (.tmp 5)⟩,
    ⟨(some 18), (some (16, true)), false, .fad 1 (.tmp 3)⟩,
    ⟨(some 19), (some (16, true)), false, .ld1 (.tmp 18)⟩,
    ⟨(some 20), (some (16, true)), false, .bin .leq (.tmp 17) (.tmp 19)⟩,
    ⟨(some 21), none, false, .pick (.tmp 16) (.tmp 20) (.const (Value.bool false))⟩,
    ⟨(some 22), none, false, .mov (.tmp 21)⟩,
    ⟨(some 23), (some (22, true)), false, .fad 1 (.tmp 3)⟩,
    ⟨(some 24), (some (22, true)), false, .ld1 (.tmp 23)⟩,
    ⟨(some 25), (some (22, true)), false, .bin .leq (.tmp 24) (.const (Value.int IntKind.i64 76800000))⟩,
    ⟨(some 26), none, false, .pick (.tmp 22) (.tmp 25) (.const (Value.bool false))⟩,
    ⟨(some 27), none, false, .mov (.tmp 26)⟩,
    ⟨(some 28), (some (27, true)), false, .fad 2 (.tmp 3)⟩,
    ⟨(some 29), (some (27, true)), false, .ld1 (.tmp 28)⟩,
    ⟨(some 30), (some (27, true)), false, .bin .geq (.tmp 29) (.const (Value.int IntKind.i64 0))⟩,
    ⟨(some 31), none, false, .pick (.tmp 27) (.tmp 30) (.const (Value.bool false))⟩,
    ⟨(some 32), none, false, .mov (.tmp 31)⟩,
    ⟨(some 33), (some (32, true)), false, .fad 2 (.tmp 3)⟩,
    ⟨(some 34), (some (32, true)), false, .ld1 (.tmp 33)⟩,
    ⟨(some 35), (some (32, true)), false, .bin .leq (.tmp 34) (.const (Value.int IntKind.i64 3))⟩,
    ⟨(some 36), none, false, .pick (.tmp 32) (.tmp 35) (.const (Value.bool false))⟩,
    ⟨(some 4), none, false, .mov (.tmp 36)⟩]) .ret))) }
/-- bandplan/product.Valid -/
def ic35 : IFn := { ntmps := 68, results := [.tmp 2], code := (.seq (.ops false [
    ⟨(some 2), none, false, .mov (.const (Value.bool false))⟩]) (.seq (.seq (.ops false [
    ⟨(some 5), none, false, .mov (.tmp 0)⟩,
    ⟨(some 6), none, false, .len .sl (.tmp 5)⟩,
    ⟨(some 7), none, false, .mov (.const (Value.int IntKind.i64 0))⟩]) (.block 0 (.loop (.seq (.ops false [
    ⟨(some 8), none, false, .bin .lss (.tmp 7) (.tmp 6)⟩]) (.seq (.cond (.tmp 8) .skip (.exit 0)) (.seq (.block 1 (.seq (.ops false [
    ⟨(some 9), none, false, .mov (.tmp 7)⟩,
    ⟨(some 10), none, false, .ixs 5 (.tmp 5) (.tmp 7)⟩,
    ⟨(some 11), none, false, .ldn 5 (.tmp 10)⟩,
    ⟨(some 4), none, false, .new [.int .i64 0, .int .i64 0, .int .i64 0, .int .i64 0, .int .i64 0]⟩,
    ⟨(some 3), none, false, .mov (.tmp 9)⟩,
    ⟨none, none, false, .sto 5 (.tmp 4) (.tmp 11)⟩]) (.seq (.seq (.ops false [
    ⟨(some 12), none, false, .fad 0 (.tmp 4)⟩,
    ⟨(some 13), none, false, .ld1 (.tmp 12)⟩,
    ⟨(some 14), none, false, .call (.func 40) [.tmp 13, .const (Value.int IntKind.i64 0), .const (Value.int IntKind.i64 63)]⟩,
    ⟨(some 15), none, false, .una .not (.tmp 14)⟩,
    ⟨(some 16), none, false, .mov (.tmp 15)⟩,
    ⟨(some 17), (some (16, false)), false, .fad 1 (.tmp 4)⟩,
    ⟨(some 18), (some (16, false)), false, .ld1 (.tmp 17)⟩,
    ⟨(some 19), (some (16, false)), false, .call (.func 40) [.tmp 18, .const (Value.int IntKind.i64 1), .const (Value.int IntKind.i64 2)]⟩,
    ⟨(some 20), (some (16, false)), false, .una .not (.tmp 19)⟩,
    ⟨(some 21), none, false, .pick (.tmp 16) (.const (Value.bool true)) (.tmp 20)⟩,
    ⟨(some 22), none, false, .mov (.tmp 21)⟩,
    ⟨(some 23), (some (22, false)), false, .fad 2 (.tmp 4)⟩,
    ⟨(some 24), (some (22, false)), false, .ld1 (.tmp 23)⟩,
    ⟨(some 25), (some (22, false)), false, .call (.func 40) [.tmp 24, .const (Value.int IntKind.i64 1), .const (Value.int IntKind.i64 12)]⟩,
    ⟨(some 26), (some (22, false)), false, .una .not (.tmp 25)⟩,
    ⟨(some 27), none, false, .pick (.tmp 22) (.const (Value.bool true)) (.tmp 26)⟩,
    ⟨(some 28), none, false, .mov (.tmp 27)⟩,
    ⟨(some 29), (some (28, false)), false, .fad 3 (.tmp 4)⟩,
    ⟨(some 30), (some (28, false)), false, .ld1 (.tmp 29)⟩,
    ⟨(some 31), (some (28, false)), false, .call (.func 40) [.tmp 30, .const (Value.int IntKind.i64 1), .const (Value.int IntKind.i64 100000)]⟩,
    ⟨(some 32), (some (28, false)), false, .una .not (.tmp 31)⟩,
    ⟨(some 33), none, false, .pick (.tmp 28) (.const (Value.bool true)) (.tmp 32)⟩,
    ⟨(some 34), none, false, .mov (.tmp 33)⟩,
    ⟨(some 35), (some (34, false)), false, .fad 4 (.tmp 4)⟩,
    ⟨(some 36), (some (34, false)), false, .ld1 (.tmp 35)⟩,
    ⟨(some 37), (some (34, false)), false, .call (.func 40) [.tmp 36, .const (Value.int IntKind.i64 0), .const (Value.int IntKind.i64 549755813888)]⟩,
    ⟨(some 38), (some (34, false)), false, .una .not (.tmp 37)⟩,
    ⟨(some 39), none, false, .pick (.tmp 34) (.const (Value.bool true)) (.tmp 38)⟩]) (.cond (.tmp 39) (.seq (.ops false [
    ⟨(some 2), none, false, .mov (.const (Value.bool false))⟩]) .ret) .skip)) (.seq (.ops true [
    ⟨(some 40), none, false, .mov (.tmp 3)⟩,
    ⟨(some 41), none, false, .bin .gtr (.tmp 40) (.const (Value.int IntKind.i64 0))⟩,
    ⟨(some 42), none, false, .mov (.tmp 41)⟩,
    ⟨(some 43), (some (42, true)), false, .mov (.tmp 0)⟩,
    ⟨(some 44), (some (42, true)), false, .mov (.tmp 3)⟩,
    ⟨(some 45), (some (42, true)), false, .bin .sub (.tmp 44) (.const (Value.int IntKind.i64 1))⟩,
    ⟨(some 46), (some (42, true)), false, .ixs 5 (.tmp 43) (.tmp 45)⟩,
    ⟨(some 47), (some (42, true)), false, .fad 0 (.tmp 46)⟩,
    ⟨(some 48), (some (42, true)), false, .ld1 (.tmp 47)⟩,
    ⟨(some 49), (some (42, true)), false, .fad 0 (.tmp 4)⟩,
    ⟨(some 50), (some (42, true)), false, .ld1 (.tmp 49)⟩,
    ⟨(some 51), (some (42, true)), false, .bin .eql (.tmp 48) (.tmp 50)⟩,
    ⟨(some 52), none, false, .pick (.tmp 42) (.tmp 51) (.const (Value.bool false))⟩,
    ⟨(some 53), none, false, .mov (.tmp 52)⟩,
    ⟨(some 54), (some (53, true)), false, .mov (.tmp 0)⟩,
    ⟨(some 55), (some (53, true)), false, .mov (.tmp 3)⟩,
    ⟨(some 56), (some (53, true)), false, .bin .sub (.tmp 55) (.const (Value.int IntKind.i64 1))⟩,
    ⟨(some 57), (some (53, true)), false, .ixs 5 (.tmp 54) (.tmp 56)⟩,
    ⟨(some 58), (some (53, true)), false, .fad 2 (.tmp 57)⟩,
    ⟨(some 59), (some (53, true)), false, .ld1 (.tmp 58)⟩,
    ⟨(some 60), (some (53, true)), false, .fad 2 (.tmp 4)⟩,
    ⟨(some 61), (some (53, true)), false, .ld1 (.tmp 60)⟩,
    ⟨(some 62), (some (53, true)), false, .bin .add (.tmp 59) (.tmp 61)⟩,
    ⟨(some 63), (some (53, true)), false, .bin .gtr (.tmp 62) (.const (Value.int IntKind.i64 12))⟩,
    ⟨(some 64), none, false, .pick (.tmp 53) (.tmp 63) (.const (Value.bool false))⟩]) (.cond (.tmp 64) (.seq (.ops false [
    ⟨(some 2), none, false, .mov (.const (Value.bool false))⟩]) .ret) .skip))))) (.ops false [
    ⟨(some 65), none, false, .bin .add (.tmp 7) (.const (Value.int IntKind.i64 1))⟩,
    ⟨(some 7), none, false, .mov (.tmp 65)⟩]))))))) (.seq (.ops false [
    ⟨(some 66), none, false, .mov (.tmp 0)⟩,
    ⟨(some 67), none, false, .call (.func 41) [.tmp 66, .func 42]⟩,
    ⟨(some 2), none, false, .mov (.tmp 67)⟩]) .ret))) }
/-- bandplan/demand.Valid -/
def ic36 : IFn := { ntmps := 36, results := [.tmp 4], code := (.seq (.ops false [
    ⟨(some 4), none, false, .mov (.const (Value.bool false))⟩]) (.seq (.seq (.ops false [
    ⟨(some 7), none, false, .mov (.tmp 0)⟩,
    ⟨(some 8), none, false, .call (.func 35) [.tmp 7]⟩,
    ⟨(some 9), none, false, .una .not (.tmp 8)⟩,
    ⟨(some 10), none, false, .mov (.tmp 9)⟩,
    ⟨(some 11), (some (10, false)), false, .mov (.tmp 1)⟩,
    ⟨(some 12), (some (10, false)), false, .len .sl (.tmp 11)⟩,
    ⟨(some 13), (some (10, false)), false, .mov (.tmp 0)⟩,
    ⟨(some 14), (some (10, false)), false, .len .sl (.tmp 13)⟩,
    ⟨(some 15), (some (10, false)), false, .bin .neq (.tmp 12) (.tmp 14)⟩,
    ⟨(some 16), none, false, .pick (.tmp 10) (.const (Value.bool true)) (.tmp 15)⟩]) (.cond (.tmp 16) (.seq (.ops false [
    ⟨(some 4), none, false, .mov (.const (Value.bool false))⟩]) .ret) .skip)) (.seq (.seq (.ops false [
    ⟨(some 17), none, false, .mov (.tmp 1)⟩,
    ⟨(some 18), none, false, .len .sl (.tmp 17)⟩,
    ⟨(some 19), none, false, .mov (.const (Value.int IntKind.i64 0))⟩]) (.block 0 (.loop (.seq (.ops false [
    ⟨(some 20), none, false, .bin .lss (.tmp 19) (.tmp 18)⟩]) (.seq (.cond (.tmp 20) .skip (.exit 0)) (.seq (.block 1 (.seq (.ops false [
    ⟨(some 21), none, false, .mov (.tmp 19)⟩,
    ⟨(some 22), none, false, .ixs 1 (.tmp 17) (.tmp 19)⟩,
    ⟨(some 23), none, false, .ld1 (.tmp 22)⟩,
    ⟨(some 5), none, false, .mov (.tmp 21)⟩,
    ⟨(some 6), none, false, .mov (.tmp 23)⟩]) (.seq (.ops false [
    ⟨(some 24), none, false, .mov (.tmp 6)⟩,
    ⟨(some 25), none, false, .bin .lss (.tmp 24) (.const (Value.int IntKind.i64 0))⟩,
    ⟨(some 26), none, false, .mov (.tmp 25)⟩,
    ⟨(some 27), (some (26, false)), false, .mov (.tmp 6)⟩,
    ⟨(some 28), (some (26, false)), false, .mov (.tmp 0)⟩,
    ⟨(some 29), (some (26, false)), false, .mov (.tmp 5)⟩,
    ⟨(some 30), (some (26, false)), false, .ixs 5 (.tmp 28) (.tmp 29)⟩,
    ⟨(some 31), (some (26, false)), false, .fad 2 (.tmp 30)⟩,
    ⟨(some 32), (some (26, false)), false, .ld1 (.tmp 31)⟩,
    ⟨(some 33), (some (26, false)), false, .bin .gtr (.tmp 27) (.tmp 32)⟩,
    ⟨(some 34), none, false, .pick (.tmp 26) (.const (Value.bool true)) (.tmp 33)⟩]) (.cond (.tmp 34) (.seq (.ops false [
    ⟨(some 4), none, false, .mov (.const (Value.bool false))⟩]) .ret) .skip)))) (.ops false [
    ⟨(some 35), none, false, .bin .add (.tmp 19) (.const (Value.int IntKind.i64 1))⟩,
    ⟨(some 19), none, false, .mov (.tmp 35)⟩]))))))) (.seq (.ops false [
    ⟨(some 4), none, false, .mov (.const (Value.bool true))⟩]) .ret)))) }
/-- bandplan/demand.sum -/
def ic37 : IFn := { ntmps := 24, results := [.tmp 4], code := (.seq (.ops false [
    ⟨(some 4), none, false, .mov (.const (Value.int IntKind.i64 0))⟩]) (.seq (.ops false [
    ⟨(some 5), none, false, .mov (.const (Value.int IntKind.i64 0))⟩]) (.seq (.seq (.ops false [
    ⟨(some 8), none, false, .mov (.tmp 0)⟩,
    ⟨(some 9), none, false, .len .sl (.tmp 8)⟩,
    ⟨(some 10), none, false, .mov (.const (Value.int IntKind.i64 0))⟩]) (.block 0 (.loop (.seq (.ops false [
    ⟨(some 11), none, false, .bin .lss (.tmp 10) (.tmp 9)⟩]) (.seq (.cond (.tmp 11) .skip (.exit 0)) (.seq (.block 1 (.seq (.ops false [
    ⟨(some 12), none, false, .mov (.tmp 10)⟩,
    ⟨(some 13), none, false, .ixs 1 (.tmp 8) (.tmp 10)⟩,
    ⟨(some 14), none, false, .ld1 (.tmp 13)⟩,
    ⟨(some 6), none, false, .mov (.tmp 12)⟩,
    ⟨(some 7), none, false, .mov (.tmp 14)⟩]) (.ops false [
    ⟨(some 15), none, false, .mov (.tmp 5)⟩,
    ⟨(some 16), none, false, .mov (.tmp 7)⟩,
    ⟨(some 17), none, false, .mov (.tmp 1)⟩,
    ⟨(some 18), none, false, .mov (.tmp 6)⟩,
    ⟨(some 19), none, false, .call (.tmp 17) [.tmp 18]⟩,
    ⟨(some 20), none, false, .bin .mul (.tmp 16) (.tmp 19)⟩,
    ⟨(some 21), none, false, .bin .add (.tmp 15) (.tmp 20)⟩,
    ⟨(some 5), none, false, .mov (.tmp 21)⟩]))) (.ops false [
    ⟨(some 22), none, false, .bin .add (.tmp 10) (.const (Value.int IntKind.i64 1))⟩,
    ⟨(some 10), none, false, .mov (.tmp 22)⟩]))))))) (.seq (.ops false [
    ⟨(some 23), none, false, .mov (.tmp 5)⟩,
    ⟨(some 4), none, false, .mov (.tmp 23)⟩]) .ret)))) }
/-- bandplan/demand.Units$1 -/
def ic38 : IFn := { ntmps := 9, results := [.tmp 3], code := (.seq (.ops false [
    ⟨(some 3), none, false, .mov (.const (Value.int IntKind.i64 0))⟩]) (.seq (.ops false [
    ⟨(some 4), none, false, .ld1 (.tmp 1)⟩,
    ⟨(some 5), none, false, .mov (.tmp 0)⟩,
    ⟨(some 6), none, false, .ixs 5 (.tmp 4) (.tmp 5)⟩,
    ⟨(some 7), none, false, .fad 3 (.tmp 6)⟩,
    ⟨(some 8), none, false, .ld1 (.tmp 7)⟩,
    ⟨(some 3), none, false, .mov (.tmp 8)⟩]) .ret)) }
/-- bandplan/bandplanref33.Valid -/
def ic39 : IFn := { ntmps := 98, results := [.tmp 2], code := (.seq (.ops false [
    ⟨(some 2), none, false, .mov (.const (Value.bool false))⟩]) (.seq (.seq (.ops false [
    ⟨(some 3), none, false, .mov (.const (Value.int IntKind.i64 0))⟩]) (.block 0 (.loop (.seq (.seq (.ops false [
    ⟨(some 6), none, false, .mov (.tmp 3)⟩,
    ⟨(some 7), none, false, .mov (.tmp 0)⟩,
    ⟨(some 8), none, false, .len .sl (.tmp 7)⟩,
    ⟨(some 9), none, false, .bin .lss (.tmp 6) (.tmp 8)⟩]) (.cond (.tmp 9) .skip (.exit 0))) (.seq (.block 1 (.seq (.ops false [
    ⟨(some 12), none, false, .mov (.tmp 0)⟩,
    ⟨(some 13), none, false, .mov (.tmp 3)⟩,
    ⟨(some 14), none, false, .ixs 5 (.tmp 12) (.tmp 13)⟩,
    ⟨(some 15), none, false, .ldn 5 (.tmp 14)⟩,
    ⟨(some 4), none, false, .new [.int .i64 0, .int .i64 0, .int .i64 0, .int .i64 0, .int .i64 0]⟩,
    ⟨none, none, false, .sto 5 (.tmp 4) (.tmp 15)⟩]) (.seq (.seq (.ops false [
    ⟨(some 16), none, false, .fad 0 (.tmp 4)⟩,
    ⟨(some 17), none, false, .ld1 (.tmp 16)⟩,
    ⟨(some 18), none, false, .bin .lss (.tmp 17) (.const (Value.int IntKind.i64 0))⟩,
    ⟨(some 19), none, false, .mov (.tmp 18)⟩,
    ⟨(some 20), (some (19, false)), false, .fad 0 (.tmp 4)⟩,
    ⟨(some 21), (some (19, false)), false, .ld1 (.tmp 20)⟩,
    ⟨(some 22), (some (19, false)), false, .bin .gtr (.tmp 21) (.const (Value.int IntKind.i64 63))⟩,
    ⟨(some 23), none, false, .pick (.tmp 19) (.const (Value.bool true)) (.tmp 22)⟩,
    ⟨(some 24), none, false, .mov (.tmp 23)⟩,
    ⟨(some 25), (some (24, false)), false, .fad 1 (.tmp 4)⟩,
    ⟨(some 26), (some (24, false)), false, .ld1 (.tmp 25)⟩,
    ⟨(some 27), (some (24, false)), false, .bin .lss (.tmp 26) (.const (Value.int IntKind.i64 1))⟩,
    ⟨(some 28), none, false, .pick (.tmp 24) (.const (Value.bool true)) (.tmp 27)⟩,
    ⟨(some 29), none, false, .mov (.tmp 28)⟩,
    ⟨(some 30), (some (29, false)), false, .fad 1 (.tmp 4)⟩,
    ⟨(some 31), (some (29, false)), false, .ld1 (.tmp 30)⟩,
    ⟨(some 32), (some (29, false)), false, .bin .gtr (.tmp 31) (.const (Value.int IntKind.i64 2))⟩,
    ⟨(some 33), none, false, .pick (.tmp 29) (.const (Value.bool true)) (.tmp 32)⟩,
    ⟨(some 34), none, false, .mov (.tmp 33)⟩,
    ⟨(some 35), (some (34, false)), false, .fad 2 (.tmp 4)⟩,
    ⟨(some 36), (some (34, false)), false, .ld1 (.tmp 35)⟩,
    ⟨(some 37), (some (34, false)), false, .bin .lss (.tmp 36) (.const (Value.int IntKind.i64 1))⟩,
    ⟨(some 38), none, false, .pick (.tmp 34) (.const (Value.bool true)) (.tmp 37)⟩,
    ⟨(some 39), none, false, .mov (.tmp 38)⟩,
    ⟨(some 40), (some (39, false)), false, .fad 2 (.tmp 4)⟩,
    ⟨(some 41), (some (39, false)), false, .ld1 (.tmp 40)⟩,
    ⟨(some 42), (some (39, false)), false, .bin .gtr (.tmp 41) (.const (Value.int IntKind.i64 12))⟩,
    ⟨(some 43), none, false, .pick (.tmp 39) (.const (Value.bool true)) (.tmp 42)⟩,
    ⟨(some 44), none, false, .mov (.tmp 43)⟩,
    ⟨(some 45), (some (44, false)), false, .fad 3 (.tmp 4)⟩,
    ⟨(some 46), (some (44, false)), false, .ld1 (.tmp 45)⟩,
    ⟨(some 47), (some (44, false)), false, .bin .lss (.tmp 46) (.const (Value.int IntKind.i64 1))⟩,
    ⟨(some 48), none, false, .pick (.tmp 44) (.const (Value.bool true)) (.tmp 47)⟩,
    ⟨(some 49), none, false, .mov (.tmp 48)⟩,
    ⟨(some 50), (some (49, false)), false, .fad 3 (.tmp 4)⟩,
    ⟨(some 51), (some (49, false)), false, .ld1 (.tmp 50)⟩,
    ⟨(some 52), (some (49, false)), false, .bin .gtr (.tmp 51) (.const (Value.int IntKind.i64 100000))⟩,
    ⟨(some 53), none, false, .pick (.tmp 49) (.const (Value.bool true)) (.tmp 52)⟩,
    ⟨(some 54), none, false, .mov (.tmp 53)⟩,
    ⟨(some 55), (some (54, false)), false, .fad 4 (.tmp 4)⟩,
    ⟨(some 56), (some (54, false)), false, .ld1 (.tmp 55)⟩,
    ⟨(some 57), (some (54, false)), false, .bin .lss (.tmp 56) (.const (Value.int IntKind.i64 0))⟩,
    ⟨(some 58), none, false, .pick (.tmp 54) (.const (Value.bool true)) (.tmp 57)⟩,
    ⟨(some 59), none, false, .mov (.tmp 58)⟩,
    ⟨(some 60), (some (59, false)), false, .fad 4 (.tmp 4)⟩,
    ⟨(some 61), (some (59, false)), false, .ld1 (.tmp 60)⟩,
    ⟨(some 62), (some (59, false)), false, .bin .gtr (.tmp 61) (.const (Value.int IntKind.i64 549755813888))⟩,
    ⟨(some 63), none, false, .pick (.tmp 59) (.const (Value.bool true)) (.tmp 62)⟩]) (.cond (.tmp 63) (.seq (.ops false [
    ⟨(some 2), none, false, .mov (.const (Value.bool false))⟩]) .ret) .skip)) (.seq (.ops false [
    ⟨(some 64), none, false, .mov (.tmp 3)⟩,
    ⟨(some 65), none, false, .bin .gtr (.tmp 64) (.const (Value.int IntKind.i64 0))⟩]) (.cond (.tmp 65) (.seq (.ops false [
    ⟨(some 66), none, false, .mov (.tmp 0)⟩,
    ⟨(some 67), none, false, .mov (.tmp 3)⟩,
    ⟨(some 68), none, false, .bin .sub (.tmp 67) (.const (Value.int IntKind.i64 1))⟩,
    ⟨(some 69), none, false, .ixs 5 (.tmp 66) (.tmp 68)⟩,
    ⟨(some 70), none, false, .ldn 5 (.tmp 69)⟩,
    ⟨(some 5), none, false, .new [.int .i64 0, .int .i64 0, .int .i64 0, .int .i64 0, .int .i64 0]⟩,
    ⟨none, none, false, .sto 5 (.tmp 5) (.tmp 70)⟩]) (.seq (.ops false [
    ⟨(some 71), none, false, .fad 0 (.tmp 4)⟩,
    ⟨(some 72), none, false, .ld1 (.tmp 71)⟩,
    ⟨(some 73), none, false, .fad 0 (.tmp 5)⟩,
    ⟨(some 74), none, false, .ld1 (.tmp 73)⟩,
    ⟨(some 75), none, false, .bin .lss (.tmp 72) (.tmp 74)⟩,
    ⟨(some 76), none, false, .mov (.tmp 75)⟩,
    ⟨(some 77), (some (76, false)), false, .fad 0 (.tmp 4)⟩,
    ⟨(some 78), (some (76, false)), false, .ld1 (.tmp 77)⟩,
    ⟨(some 79), (some (76, false)), false, .fad 0 (.tmp 5)⟩,
    ⟨(some 80), (some (76, false)), false, .ld1 (.tmp 79)⟩,
    ⟨(some 81), (some (76, false)), false, .bin .eql (.tmp 78) (.tmp 80)⟩,
    ⟨(some 82), (some (76, false)), false, .mov (.tmp 81)⟩,
    ⟨(some 83), (some (82, true)), false, .fad 1 (.tmp 4)⟩,
    ⟨(some 84), (some (82, true)), false, .ld1 (.tmp 83)⟩,
    ⟨(some 85), (some (82, true)), false, .fad 1 (.tmp 5)⟩,
    ⟨(some 86), (some (82, true)), false, .ld1 (.tmp 85)⟩,
    ⟨(some 87), (some (82, true)), false, .bin .leq (.tmp 84) (.tmp 86)⟩,
    ⟨(some 88), (some (82, true)), false, .mov (.tmp 87)⟩,
    ⟨(some 89), (some (88, false)), false, .fad 2 (.tmp 4)⟩,
    ⟨(some 90), (some (88, false)), false, .ld1 (.tmp 89)⟩,
    ⟨(some 91), (some (88, false)), false, .fad 2 (.tmp 5)⟩,
    ⟨(some 92), (some (88, false)), false, .ld1 (.tmp 91)⟩,
    ⟨(some 93), (some (88, false)), false, .bin .add (.tmp 90) (.tmp 92)⟩,
    ⟨(some 94), (some (88, false)), false, .bin .gtr (.tmp 93) (.const (Value.int IntKind.i64 12))⟩,
    ⟨(some 95), (some (82, true)), false, .pick (.tmp 88) (.const (Value.bool true)) (.tmp 94)⟩,
    ⟨(some 96), (some (76, false)), false, .pick (.tmp 82) (.tmp 95) (.const (Value.bool false))⟩,
    ⟨(some 97), none, false, .pick (.tmp 76) (.const (Value.bool true)) (.tmp 96)⟩]) (.cond (.tmp 97) (.seq (.ops false [
    ⟨(some 2), none, false, .mov (.const (Value.bool false))⟩]) .ret) .skip))) .skip))))) (.ops false [
    ⟨(some 10), none, false, .mov (.tmp 3)⟩,
    ⟨(some 11), none, false, .bin .add (.tmp 10) (.const (Value.int IntKind.i64 1))⟩,
    ⟨(some 3), none, false, .mov (.tmp 11)⟩])))))) (.seq (.ops false [
    ⟨(some 2), none, false, .mov (.const (Value.bool true))⟩]) .ret))) }
/-- bandplan/product.between -/
def ic40 : IFn := { ntmps := 15, results := [.tmp 6], code := (.seq (.ops false [
    ⟨(some 6), none, false, .mov (.const (Value.bool false))⟩]) (.seq (.ops false [
    ⟨(some 7), none, false, .mov (.tmp 0)⟩,
    ⟨(some 8), none, false, .mov (.tmp 1)⟩,
    ⟨(some 9), none, false, .bin .geq (.tmp 7) (.tmp 8)⟩,
    ⟨(some 10), none, false, .mov (.tmp 9)⟩,
    ⟨(some 11), (some (10, true)), false, .mov (.tmp 0)⟩,
    ⟨(some 12), (some (10, true)), false, .mov (.tmp 2)⟩,
    ⟨(some 13), (some (10, true)), false, .bin .leq (.tmp 11) (.tmp 12)⟩,
    ⟨(some 14), none, false, .pick (.tmp 10) (.tmp 13) (.const (Value.bool false))⟩,
    ⟨(some 6), none, false, .mov (.tmp 14)⟩]) .ret)) }
/-- bandplan/product.rising[bandplan/api.Product] -/
def ic41 : IFn := { ntmps := 24, results := [.tmp 4], code := (.seq (.ops false [
    ⟨(some 4), none, false, .mov (.const (Value.bool false))⟩]) (.seq (.seq (.ops false [
    ⟨(some 5), none, false, .mov (.const (Value.int IntKind.i64 1))⟩]) (.block 0 (.loop (.seq (.seq (.ops false [
    ⟨(some 6), none, false, .mov (.tmp 5)⟩,
    ⟨(some 7), none, false, .mov (.tmp 0)⟩,
    ⟨(some 8), none, false, .len .sl (.tmp 7)⟩,
    ⟨(some 9), none, false, .bin .lss (.tmp 6) (.tmp 8)⟩]) (.cond (.tmp 9) .skip (.exit 0))) (.seq (.block 1 (.seq (.ops true [
    ⟨(some 12), none, false, .mov (.tmp 1)⟩,
    ⟨(some 13), none, false, .mov (.tmp 0)⟩,
    ⟨(some 14), none, false, .mov (.tmp 5)⟩,
    ⟨(some 15), none, false, .bin .sub (.tmp 14) (.const (Value.int IntKind.i64 1))⟩,
    ⟨(some 16), none, false, .ixs 5 (.tmp 13) (.tmp 15)⟩,
    ⟨(some 17), none, false, .ldn 5 (.tmp 16)⟩,
    ⟨(some 18), none, false, .mov (.tmp 0)⟩,
    ⟨(some 19), none, false, .mov (.tmp 5)⟩,
    ⟨(some 20), none, false, .ixs 5 (.tmp 18) (.tmp 19)⟩,
    ⟨(some 21), none, false, .ldn 5 (.tmp 20)⟩,
    ⟨(some 22), none, false, .call (.tmp 12) [.tmp 17, .tmp 21]⟩,
    ⟨(some 23), none, false, .bin .geq (.tmp 22) (.const (Value.int IntKind.i64 0))⟩]) (.cond (.tmp 23) (.seq (.ops false [
    ⟨(some 4), none, false, .mov (.const (Value.bool false))⟩]) .ret) .skip))) (.ops false [
    ⟨(some 10), none, false, .mov (.tmp 5)⟩,
    ⟨(some 11), none, false, .bin .add (.tmp 10) (.const (Value.int IntKind.i64 1))⟩,
    ⟨(some 5), none, false, .mov (.tmp 11)⟩])))))) (.seq (.ops false [
    ⟨(some 4), none, false, .mov (.const (Value.bool true))⟩]) .ret))) }
/-- bandplan/product.Valid$1 -/
def ic42 : IFn := { ntmps := 17, results := [.tmp 4], code := (.seq (.ops false [
    ⟨(some 2), none, false, .box 5 (.tmp 0)⟩,
    ⟨(some 3), none, false, .box 5 (.tmp 1)⟩,
    ⟨(some 4), none, false, .mov (.const (Value.int IntKind.i64 0))⟩]) (.seq (.ops true [
    ⟨(some 5), none, false, .fad 0 (.tmp 2)⟩,
    ⟨(some 6), none, false, .ld1 (.tmp 5)⟩,
    ⟨(some 7), none, false, .fad 0 (.tmp 3)⟩,
    ⟨(some 8), none, false, .ld1 (.tmp 7)⟩,
    ⟨(some 9), none, true, .call (.func 44) [.tmp 6, .tmp 8]⟩,
    ⟨(some 10), none, false, .fad 1 (.tmp 2)⟩,
    ⟨(some 11), none, false, .ld1 (.tmp 10)⟩,
    ⟨(some 12), none, false, .fad 1 (.tmp 3)⟩,
    ⟨(some 13), none, false, .ld1 (.tmp 12)⟩,
    ⟨(some 14), none, false, .call (.func 44) [.tmp 11, .tmp 13]⟩,
    ⟨(some 15), none, false, .bsl 2 [.int .i64 0, .int .i64 0] [(0, 1, .tmp 9), (1, 1, .tmp 14)]⟩,
    ⟨(some 16), none, false, .call (.func 43) [.tmp 15]⟩,
    ⟨(some 4), none, false, .mov (.tmp 16)⟩]) .ret)) }
/-- cmp.Or[int] -/
def ic43 : IFn := { ntmps := 18, results := [.tmp 2], code := (.seq (.ops false [
    ⟨(some 2), none, false, .mov (.const (Value.int IntKind.i64 0))⟩]) (.seq (.ops false [
    ⟨(some 3), none, false, .mov (.const (Value.int IntKind.i64 0))⟩]) (.seq (.seq (.ops false [
    ⟨(some 6), none, false, .mov (.tmp 0)⟩,
    ⟨(some 7), none, false, .len .sl (.tmp 6)⟩,
    ⟨(some 8), none, false, .mov (.const (Value.int IntKind.i64 0))⟩]) (.block 0 (.loop (.seq (.ops false [
    ⟨(some 9), none, false, .bin .lss (.tmp 8) (.tmp 7)⟩]) (.seq (.cond (.tmp 9) .skip (.exit 0)) (.seq (.block 1 (.seq (.ops false [
    ⟨(some 10), none, false, .ixs 1 (.tmp 6) (.tmp 8)⟩,
    ⟨(some 11), none, false, .ld1 (.tmp 10)⟩,
    ⟨(some 5), none, false, .mov (.tmp 11)⟩]) (.seq (.ops false [
    ⟨(some 12), none, false, .mov (.tmp 5)⟩,
    ⟨(some 13), none, false, .mov (.tmp 3)⟩,
    ⟨(some 14), none, false, .bin .neq (.tmp 12) (.tmp 13)⟩]) (.cond (.tmp 14) (.seq (.ops false [
    ⟨(some 15), none, false, .mov (.tmp 5)⟩,
    ⟨(some 2), none, false, .mov (.tmp 15)⟩]) .ret) .skip)))) (.ops false [
    ⟨(some 16), none, false, .bin .add (.tmp 8) (.const (Value.int IntKind.i64 1))⟩,
    ⟨(some 8), none, false, .mov (.tmp 16)⟩]))))))) (.seq (.ops false [
    ⟨(some 17), none, false, .mov (.tmp 3)⟩,
    ⟨(some 2), none, false, .mov (.tmp 17)⟩]) .ret)))) }
/-- cmp.Compare[int] -/
def ic44 : IFn := { ntmps := 20, results := [.tmp 4], code := (.seq (.ops false [
    ⟨(some 4), none, false, .mov (.const (Value.int IntKind.i64 0))⟩]) (.seq (.ops false [
    ⟨(some 7), none, false, .mov (.tmp 0)⟩,
    ⟨(some 8), none, false, .call (.func 45) [.tmp 7]⟩,
    ⟨(some 5), none, false, .mov (.tmp 8)⟩]) (.seq (.ops false [
    ⟨(some 9), none, false, .mov (.tmp 1)⟩,
    ⟨(some 10), none, false, .call (.func 45) [.tmp 9]⟩,
    ⟨(some 6), none, false, .mov (.tmp 10)⟩]) (.seq (.seq (.ops false [
    ⟨(some 11), none, false, .mov (.tmp 5)⟩]) (.cond (.tmp 11) (.seq (.seq (.ops false [
    ⟨(some 12), none, false, .mov (.tmp 6)⟩]) (.cond (.tmp 12) (.seq (.ops false [
    ⟨(some 4), none, false, .mov (.const (Value.int IntKind.i64 0))⟩]) .ret) .skip)) (.seq (.ops false [
    ⟨(some 4), none, false, .mov (.const (Value.int IntKind.i64 (-1)))⟩]) .ret)) .skip)) (.seq (.seq (.ops false [
    ⟨(some 13), none, false, .mov (.tmp 6)⟩]) (.cond (.tmp 13) (.seq (.ops false [
    ⟨(some 4), none, false, .mov (.const (Value.int IntKind.i64 1))⟩]) .ret) .skip)) (.seq (.seq (.ops false [
    ⟨(some 14), none, false, .mov (.tmp 0)⟩,
    ⟨(some 15), none, false, .mov (.tmp 1)⟩,
    ⟨(some 16), none, false, .bin .lss (.tmp 14) (.tmp 15)⟩]) (.cond (.tmp 16) (.seq (.ops false [
    ⟨(some 4), none, false, .mov (.const (Value.int IntKind.i64 (-1)))⟩]) .ret) .skip)) (.seq (.seq (.ops false [
    ⟨(some 17), none, false, .mov (.tmp 0)⟩,
    ⟨(some 18), none, false, .mov (.tmp 1)⟩,
    ⟨(some 19), none, false, .bin .gtr (.tmp 17) (.tmp 18)⟩]) (.cond (.tmp 19) (.seq (.ops false [
    ⟨(some 4), none, false, .mov (.const (Value.int IntKind.i64 1))⟩]) .ret) .skip)) (.seq (.ops false [
    ⟨(some 4), none, false, .mov (.const (Value.int IntKind.i64 0))⟩]) .ret)))))))) }
/-- cmp.isNaN[int] -/
def ic45 : IFn := { ntmps := 6, results := [.tmp 2], code := (.seq (.ops false [
    ⟨(some 2), none, false, .mov (.const (Value.bool false))⟩]) (.seq (.ops false [
    ⟨(some 3), none, false, .mov (.tmp 0)⟩,
    ⟨(some 4), none, false, .mov (.tmp 0)⟩,
    ⟨(some 5), none, false, .bin .neq (.tmp 3) (.tmp 4)⟩,
    ⟨(some 2), none, false, .mov (.tmp 5)⟩]) .ret)) }
def full : FuncId → Option IFn
  | 5 => some ic5
  | 6 => some ic6
  | 7 => some ic7
  | 8 => some ic8
  | 9 => some ic9
  | 10 => some ic10
  | 11 => some ic11
  | 12 => some ic12
  | 13 => some ic13
  | 14 => some ic14
  | 15 => some ic15
  | 16 => some ic16
  | 17 => some ic17
  | 18 => some ic18
  | 19 => some ic19
  | 20 => some ic20
  | 21 => some ic21
  | 22 => some ic22
  | 23 => some ic23
  | 24 => some ic24
  | 25 => some ic25
  | 26 => some ic26
  | 27 => some ic27
  | 28 => some ic28
  | 29 => some ic29
  | 30 => some ic30
  | 31 => some ic31
  | 32 => some ic32
  | 33 => some ic33
  | 34 => some ic34
  | 35 => some ic35
  | 36 => some ic36
  | 37 => some ic37
  | 38 => some ic38
  | 39 => some ic39
  | 40 => some ic40
  | 41 => some ic41
  | 42 => some ic42
  | 43 => some ic43
  | 44 => some ic44
  | 45 => some ic45
  | _ => none
def tab : FuncId → Option IFn
  | 5 => some ic5
  | 6 => some ic6
  | 7 => some ic7
  | 9 => some ic9
  | 10 => some ic10
  | 11 => some ic11
  | 12 => some ic12
  | 13 => some ic13
  | 14 => some ic14
  | 15 => some ic15
  | 16 => some ic16
  | 17 => some ic17
  | 18 => some ic18
  | 19 => some ic19
  | 20 => some ic20
  | 21 => some ic21
  | 22 => some ic22
  | 23 => some ic23
  | 24 => some ic24
  | 25 => some ic25
  | 26 => some ic26
  | 27 => some ic27
  | 28 => some ic28
  | 29 => some ic29
  | 30 => some ic30
  | 31 => some ic31
  | 32 => some ic32
  | 33 => some ic33
  | 34 => some ic34
  | 35 => some ic35
  | 36 => some ic36
  | 37 => some ic37
  | 38 => some ic38
  | 39 => some ic39
  | 40 => some ic40
  | 41 => some ic41
  | 42 => some ic42
  | 43 => some ic43
  | 44 => some ic44
  | 45 => some ic45
  | _ => none
theorem t5 : tabP Try.prog 0 5 = some ic5 := by kernel_rfl
theorem t6 : tabP Try.prog 0 6 = some ic6 := by kernel_rfl
theorem t7 : tabP Try.prog 0 7 = some ic7 := by kernel_rfl
theorem t8 : tabP Try.prog 0 8 = some ic8 := by kernel_rfl
theorem t9 : tabP Try.prog 0 9 = some ic9 := by kernel_rfl
theorem t10 : tabP Try.prog 0 10 = some ic10 := by kernel_rfl
theorem t11 : tabP Try.prog 0 11 = some ic11 := by kernel_rfl
theorem t12 : tabP Try.prog 0 12 = some ic12 := by kernel_rfl
theorem t13 : tabP Try.prog 0 13 = some ic13 := by kernel_rfl
theorem t14 : tabP Try.prog 0 14 = some ic14 := by kernel_rfl
theorem t15 : tabP Try.prog 0 15 = some ic15 := by kernel_rfl
theorem t16 : tabP Try.prog 0 16 = some ic16 := by kernel_rfl
theorem t17 : tabP Try.prog 0 17 = some ic17 := by kernel_rfl
theorem t18 : tabP Try.prog 0 18 = some ic18 := by kernel_rfl
theorem t19 : tabP Try.prog 0 19 = some ic19 := by kernel_rfl
theorem t20 : tabP Try.prog 0 20 = some ic20 := by kernel_rfl
theorem t21 : tabP Try.prog 0 21 = some ic21 := by kernel_rfl
theorem t22 : tabP Try.prog 0 22 = some ic22 := by kernel_rfl
theorem t23 : tabP Try.prog 0 23 = some ic23 := by kernel_rfl
theorem t24 : tabP Try.prog 0 24 = some ic24 := by kernel_rfl
theorem t25 : tabP Try.prog 0 25 = some ic25 := by kernel_rfl
theorem t26 : tabP Try.prog 0 26 = some ic26 := by kernel_rfl
theorem t27 : tabP Try.prog 0 27 = some ic27 := by kernel_rfl
theorem t28 : tabP Try.prog 0 28 = some ic28 := by kernel_rfl
theorem t29 : tabP Try.prog 0 29 = some ic29 := by kernel_rfl
theorem t30 : tabP Try.prog 0 30 = some ic30 := by kernel_rfl
theorem t31 : tabP Try.prog 0 31 = some ic31 := by kernel_rfl
theorem t32 : tabP Try.prog 0 32 = some ic32 := by kernel_rfl
theorem t33 : tabP Try.prog 0 33 = some ic33 := by kernel_rfl
theorem t34 : tabP Try.prog 0 34 = some ic34 := by kernel_rfl
theorem t35 : tabP Try.prog 0 35 = some ic35 := by kernel_rfl
theorem t36 : tabP Try.prog 0 36 = some ic36 := by kernel_rfl
theorem t37 : tabP Try.prog 0 37 = some ic37 := by kernel_rfl
theorem t38 : tabP Try.prog 0 38 = some ic38 := by kernel_rfl
theorem t39 : tabP Try.prog 0 39 = some ic39 := by kernel_rfl
theorem t40 : tabP Try.prog 0 40 = some ic40 := by kernel_rfl
theorem t41 : tabP Try.prog 0 41 = some ic41 := by kernel_rfl
theorem t42 : tabP Try.prog 0 42 = some ic42 := by kernel_rfl
theorem t43 : tabP Try.prog 0 43 = some ic43 := by kernel_rfl
theorem t44 : tabP Try.prog 0 44 = some ic44 := by kernel_rfl
theorem t45 : tabP Try.prog 0 45 = some ic45 := by kernel_rfl
theorem fullOk (F : FuncId) (fn : IFn) (h : full F = some fn) : tabP Try.prog 0 F = some fn := by
  unfold full at h
  split at h
  · rw [← h]; exact t5
  · rw [← h]; exact t6
  · rw [← h]; exact t7
  · rw [← h]; exact t8
  · rw [← h]; exact t9
  · rw [← h]; exact t10
  · rw [← h]; exact t11
  · rw [← h]; exact t12
  · rw [← h]; exact t13
  · rw [← h]; exact t14
  · rw [← h]; exact t15
  · rw [← h]; exact t16
  · rw [← h]; exact t17
  · rw [← h]; exact t18
  · rw [← h]; exact t19
  · rw [← h]; exact t20
  · rw [← h]; exact t21
  · rw [← h]; exact t22
  · rw [← h]; exact t23
  · rw [← h]; exact t24
  · rw [← h]; exact t25
  · rw [← h]; exact t26
  · rw [← h]; exact t27
  · rw [← h]; exact t28
  · rw [← h]; exact t29
  · rw [← h]; exact t30
  · rw [← h]; exact t31
  · rw [← h]; exact t32
  · rw [← h]; exact t33
  · rw [← h]; exact t34
  · rw [← h]; exact t35
  · rw [← h]; exact t36
  · rw [← h]; exact t37
  · rw [← h]; exact t38
  · rw [← h]; exact t39
  · rw [← h]; exact t40
  · rw [← h]; exact t41
  · rw [← h]; exact t42
  · rw [← h]; exact t43
  · rw [← h]; exact t44
  · rw [← h]; exact t45
  · cases h
theorem tabOk (F : FuncId) (fn : IFn) (h : tab F = some fn) : tabP Try.prog 0 F = some fn := by
  unfold tab at h
  split at h
  · rw [← h]; exact t5
  · rw [← h]; exact t6
  · rw [← h]; exact t7
  · rw [← h]; exact t9
  · rw [← h]; exact t10
  · rw [← h]; exact t11
  · rw [← h]; exact t12
  · rw [← h]; exact t13
  · rw [← h]; exact t14
  · rw [← h]; exact t15
  · rw [← h]; exact t16
  · rw [← h]; exact t17
  · rw [← h]; exact t18
  · rw [← h]; exact t19
  · rw [← h]; exact t20
  · rw [← h]; exact t21
  · rw [← h]; exact t22
  · rw [← h]; exact t23
  · rw [← h]; exact t24
  · rw [← h]; exact t25
  · rw [← h]; exact t26
  · rw [← h]; exact t27
  · rw [← h]; exact t28
  · rw [← h]; exact t29
  · rw [← h]; exact t30
  · rw [← h]; exact t31
  · rw [← h]; exact t32
  · rw [← h]; exact t33
  · rw [← h]; exact t34
  · rw [← h]; exact t35
  · rw [← h]; exact t36
  · rw [← h]; exact t37
  · rw [← h]; exact t38
  · rw [← h]; exact t39
  · rw [← h]; exact t40
  · rw [← h]; exact t41
  · rw [← h]; exact t42
  · rw [← h]; exact t43
  · rw [← h]; exact t44
  · rw [← h]; exact t45
  · cases h
theorem mixed : Try.prog.follows .mixedOrders = true := by kernel_rfl
end Go.Proofs.Ytmjmnjfopgabjaa.Tab
