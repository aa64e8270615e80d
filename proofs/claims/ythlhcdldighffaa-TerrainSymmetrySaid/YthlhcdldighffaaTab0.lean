/- The functions that the law reaches, as instructions of the ideal machine; and the proof that they are what the given program compiles to. -/
import Derived.Test.YthlhcdldighffaaChecked
import Derived.Test.YthlhcdldighffaaImG
import Derived.KernelRfl
namespace Go.Proofs.Ythlhcdldighffaa.Tab
open Go Go.IM
set_option maxRecDepth 100000
abbrev oq (d : Nat) (o : IOp) : IOper := ⟨some d, none, false, o⟩
abbrev gq (d k : Nat) (b : Bool) (o : IOp) : IOper := ⟨some d, some (k, b), false, o⟩
abbrev cq (n : Int) : Operand := .const (.int .i64 n)
/-- bandplan/bandplanlaw10.TerrainFlat -/
def ic3 : IFn := { ntmps := 77, results := [.tmp 8], code := (.seq (.ops false [
oq 8 (.mov (.const (.bool false)))]) (.seq (.ops false [
oq 12 (.mov (.tmp 0)),
oq 13 (.mov (.tmp 1)),
oq 14 (.mov (.tmp 2)),
oq 15 (.mov (.tmp 3)),
oq 16 (.call (.func 11) [.tmp 12, .tmp 13, .tmp 14, .tmp 15]),
oq 11 (.mov (.tmp 16)),
oq 17 (.ext (.tmp 11) 0),
oq 18 (.ext (.tmp 11) 1),
oq 9 (.new [.int .i64 0, .int .i64 0, .slice none 0 0, .slice none 0 0]),
⟨none, none, false, .sto 4 (.tmp 9) (.tmp 17)⟩,
oq 10 (.mov (.tmp 18))]) (.seq (.seq (.ops false [
oq 19 (.mov (.tmp 0)),
oq 20 (.bin .lss (.tmp 19) (cq 1)),
oq 21 (.mov (.tmp 20)),
gq 22 21 false (.mov (.tmp 0)),
gq 23 21 false (.bin .gtr (.tmp 22) (.const (.int .i64 64))),
oq 24 (.pick (.tmp 21) (.const (.bool true)) (.tmp 23)),
oq 25 (.mov (.tmp 24)),
gq 26 25 false (.mov (.tmp 1)),
gq 27 25 false (.bin .lss (.tmp 26) (cq 1)),
oq 28 (.pick (.tmp 25) (.const (.bool true)) (.tmp 27)),
oq 29 (.mov (.tmp 28)),
gq 30 29 false (.mov (.tmp 1)),
gq 31 29 false (.bin .gtr (.tmp 30) (.const (.int .i64 64))),
oq 32 (.pick (.tmp 29) (.const (.bool true)) (.tmp 31)),
oq 33 (.mov (.tmp 32)),
gq 34 33 false (.mov (.tmp 2)),
gq 35 33 false (.bin .lss (.tmp 34) (cq 0)),
oq 36 (.pick (.tmp 33) (.const (.bool true)) (.tmp 35)),
oq 37 (.mov (.tmp 36)),
gq 38 37 false (.mov (.tmp 2)),
gq 39 37 false (.bin .gtr (.tmp 38) (.const (.int .i64 9000))),
oq 40 (.pick (.tmp 37) (.const (.bool true)) (.tmp 39)),
oq 41 (.mov (.tmp 40)),
gq 42 41 false (.mov (.tmp 3)),
gq 43 41 false (.bin .lss (.tmp 42) (cq 0)),
oq 44 (.pick (.tmp 41) (.const (.bool true)) (.tmp 43)),
oq 45 (.mov (.tmp 44)),
gq 46 45 false (.mov (.tmp 3)),
gq 47 45 false (.bin .gtr (.tmp 46) (.const (.int .i64 1000000))),
oq 48 (.pick (.tmp 45) (.const (.bool true)) (.tmp 47))]) (.cond (.tmp 48) (.seq (.ops false [
oq 49 (.ldn 4 (.tmp 9)),
oq 50 (.bld [.int .i64 0, .int .i64 0, .slice none 0 0, .slice none 0 0] []),
oq 51 (.call (.func 12) [.tmp 49, .tmp 50]),
oq 52 (.mov (.tmp 51)),
gq 53 52 true (.mov (.tmp 10)),
gq 54 52 true (.bin .eql (.tmp 53) (.const (.int .i64 2))),
oq 55 (.pick (.tmp 52) (.tmp 54) (.const (.bool false))),
oq 56 (.mov (.tmp 55)),
gq 57 56 true (.call (.func 13) []),
oq 58 (.pick (.tmp 56) (.tmp 57) (.const (.bool false))),
oq 8 (.mov (.tmp 58))]) .ret) .skip)) (.seq (.ops true [
oq 59 (.mov (.tmp 10)),
oq 60 (.bin .eql (.tmp 59) (cq 0)),
oq 61 (.mov (.tmp 60)),
gq 62 61 true (.ldn 4 (.tmp 9)),
gq 63 61 true (.mov (.tmp 0)),
gq 64 61 true (.mov (.tmp 1)),
gq 65 61 true (.mov (.tmp 2)),
gq 66 61 true (.mov (.tmp 3)),
⟨some 67, some (61, true), true, .call (.func 14) [.tmp 63, .tmp 64, .tmp 65, .tmp 66]⟩,
gq 68 61 true (.call (.func 12) [.tmp 62, .tmp 67]),
oq 69 (.pick (.tmp 61) (.tmp 68) (.const (.bool false))),
oq 70 (.mov (.tmp 69)),
gq 71 70 true (.ldn 4 (.tmp 9)),
gq 72 70 true (.call (.func 15) [.tmp 71]),
oq 73 (.pick (.tmp 70) (.tmp 72) (.const (.bool false))),
oq 74 (.mov (.tmp 73)),
gq 75 74 true (.call (.func 13) []),
oq 76 (.pick (.tmp 74) (.tmp 75) (.const (.bool false))),
oq 8 (.mov (.tmp 76))]) .ret)))) }
theorem t3 : tabP Try.prog 0 3 = some ic3 := by kernel_rfl
/-- bandplan/bandplanlaw10.TerrainSets -/
def ic4 : IFn := { ntmps := 117, results := [.tmp 8], code := (.seq (.ops false [
oq 4 (.box 4 (.tmp 0)),
oq 5 (.box 2 (.tmp 1)),
oq 8 (.mov (.const (.bool false)))]) (.seq (.seq (.ops false [
oq 13 (.ldn 4 (.tmp 4)),
oq 14 (.call (.func 16) [.tmp 13])]) (.cond (.tmp 14) (.seq (.ops false [
oq 15 (.call (.func 13) []),
oq 8 (.mov (.tmp 15))]) .ret) .skip)) (.seq (.ops true [
oq 16 (.fad 0 (.tmp 4)),
oq 17 (.ld1 (.tmp 16)),
oq 18 (.fad 1 (.tmp 4)),
oq 19 (.ld1 (.tmp 18)),
oq 20 (.bsl 0 [] []),
oq 21 (.fad 2 (.tmp 4)),
oq 22 (.ld1 (.tmp 21)),
⟨some 23, none, true, .app 1 8 (.tmp 20) (.tmp 22)⟩,
oq 24 (.bsl 0 [] []),
oq 25 (.fad 3 (.tmp 4)),
oq 26 (.ld1 (.tmp 25)),
⟨some 27, none, true, .app 1 8 (.tmp 24) (.tmp 26)⟩,
oq 28 (.bld [.int .i64 0, .int .i64 0, .slice none 0 0, .slice none 0 0] [(0, 1, .tmp 17), (1, 1, .tmp 19), (2, 1, .tmp 23), (3, 1, .tmp 27)]),
oq 9 (.new [.int .i64 0, .int .i64 0, .slice none 0 0, .slice none 0 0]),
⟨none, none, false, .sto 4 (.tmp 9) (.tmp 28)⟩]) (.seq (.ops false [
oq 30 (.ldn 4 (.tmp 4)),
oq 31 (.ldn 2 (.tmp 5)),
oq 32 (.mov (.tmp 2)),
oq 33 (.mov (.tmp 3)),
oq 34 (.call (.func 17) [.tmp 30, .tmp 31, .tmp 32, .tmp 33]),
oq 29 (.mov (.tmp 34)),
oq 35 (.ext (.tmp 29) 0),
oq 36 (.ext (.tmp 29) 1),
oq 10 (.new [.int .i64 0, .int .i64 0, .slice none 0 0, .slice none 0 0]),
⟨none, none, false, .sto 4 (.tmp 10) (.tmp 35)⟩,
oq 11 (.mov (.tmp 36))]) (.seq (.seq (.ops false [
oq 37 (.ldn 4 (.tmp 4)),
oq 38 (.ldn 2 (.tmp 5)),
oq 39 (.call (.func 18) [.tmp 37, .tmp 38]),
oq 40 (.una .not (.tmp 39)),
oq 41 (.mov (.tmp 40)),
gq 42 41 false (.mov (.tmp 2)),
gq 43 41 false (.bin .lss (.tmp 42) (cq 0)),
oq 44 (.pick (.tmp 41) (.const (.bool true)) (.tmp 43)),
oq 45 (.mov (.tmp 44)),
gq 46 45 false (.mov (.tmp 2)),
gq 47 45 false (.bin .gtr (.tmp 46) (.const (.int .i64 9000))),
oq 48 (.pick (.tmp 45) (.const (.bool true)) (.tmp 47)),
oq 49 (.mov (.tmp 48)),
gq 50 49 false (.mov (.tmp 3)),
gq 51 49 false (.bin .lss (.tmp 50) (cq 0)),
oq 52 (.pick (.tmp 49) (.const (.bool true)) (.tmp 51)),
oq 53 (.mov (.tmp 52)),
gq 54 53 false (.mov (.tmp 3)),
gq 55 53 false (.bin .gtr (.tmp 54) (.const (.int .i64 1000000))),
oq 56 (.pick (.tmp 53) (.const (.bool true)) (.tmp 55))]) (.cond (.tmp 56) (.seq (.ops false [
oq 57 (.ldn 4 (.tmp 10)),
oq 58 (.bld [.int .i64 0, .int .i64 0, .slice none 0 0, .slice none 0 0] []),
oq 59 (.call (.func 12) [.tmp 57, .tmp 58]),
oq 60 (.mov (.tmp 59)),
gq 61 60 true (.mov (.tmp 11)),
gq 62 60 true (.bin .eql (.tmp 61) (.const (.int .i64 2))),
oq 63 (.pick (.tmp 60) (.tmp 62) (.const (.bool false))),
oq 64 (.mov (.tmp 63)),
gq 65 64 true (.ldn 4 (.tmp 4)),
gq 66 64 true (.ldn 4 (.tmp 9)),
gq 67 64 true (.call (.func 12) [.tmp 65, .tmp 66]),
oq 68 (.pick (.tmp 64) (.tmp 67) (.const (.bool false))),
oq 69 (.mov (.tmp 68)),
gq 70 69 true (.call (.func 13) []),
oq 71 (.pick (.tmp 69) (.tmp 70) (.const (.bool false))),
oq 8 (.mov (.tmp 71))]) .ret) .skip)) (.seq (.seq (.ops true [
oq 72 (.mov (.tmp 11)),
oq 73 (.bin .neq (.tmp 72) (cq 0)),
oq 74 (.mov (.tmp 73)),
gq 75 74 false (.ldn 4 (.tmp 10)),
gq 76 74 false (.ldn 4 (.tmp 4)),
gq 77 74 false (.ldn 2 (.tmp 5)),
gq 78 74 false (.mov (.tmp 2)),
gq 79 74 false (.mov (.tmp 3)),
⟨some 80, some (74, false), true, .call (.func 19) [.tmp 76, .tmp 77, .tmp 78, .tmp 79]⟩,
gq 81 74 false (.call (.func 12) [.tmp 75, .tmp 80]),
gq 82 74 false (.una .not (.tmp 81)),
oq 83 (.pick (.tmp 74) (.const (.bool true)) (.tmp 82)),
oq 84 (.mov (.tmp 83)),
gq 85 84 false (.ldn 4 (.tmp 4)),
gq 86 84 false (.ldn 4 (.tmp 9)),
gq 87 84 false (.call (.func 12) [.tmp 85, .tmp 86]),
gq 88 84 false (.una .not (.tmp 87)),
oq 89 (.pick (.tmp 84) (.const (.bool true)) (.tmp 88))]) (.cond (.tmp 89) (.seq (.ops false [
oq 8 (.mov (.const (.bool false)))]) .ret) .skip)) (.seq (.seq (.ops false [
oq 12 (.mov (cq 0))]) (.block 0 (.loop (.seq (.seq (.ops false [
oq 90 (.mov (.tmp 12)),
oq 91 (.fad 2 (.tmp 10)),
oq 92 (.ld1 (.tmp 91)),
oq 93 (.len .sl (.tmp 92)),
oq 94 (.bin .lss (.tmp 90) (.tmp 93))]) (.cond (.tmp 94) .skip (.exit 0))) (.seq (.block 1 (.seq (.ops false [
oq 97 (.fad 2 (.tmp 10)),
oq 98 (.ld1 (.tmp 97)),
oq 99 (.mov (.tmp 12)),
oq 100 (.ixs 1 (.tmp 98) (.tmp 99)),
oq 101 (.ld1 (.tmp 100)),
oq 102 (.bin .add (.tmp 101) (cq 1)),
oq 103 (.ixs 1 (.tmp 98) (.tmp 99)),
⟨none, none, false, .sto 1 (.tmp 103) (.tmp 102)⟩]) (.ops false [
oq 104 (.fad 3 (.tmp 10)),
oq 105 (.ld1 (.tmp 104)),
oq 106 (.mov (.tmp 12)),
oq 107 (.ixs 1 (.tmp 105) (.tmp 106)),
oq 108 (.ld1 (.tmp 107)),
oq 109 (.bin .add (.tmp 108) (cq 1)),
oq 110 (.ixs 1 (.tmp 105) (.tmp 106)),
⟨none, none, false, .sto 1 (.tmp 110) (.tmp 109)⟩]))) (.ops false [
oq 95 (.mov (.tmp 12)),
oq 96 (.bin .add (.tmp 95) (cq 1)),
oq 12 (.mov (.tmp 96))])))))) (.seq (.ops false [
oq 111 (.ldn 4 (.tmp 4)),
oq 112 (.ldn 4 (.tmp 9)),
oq 113 (.call (.func 12) [.tmp 111, .tmp 112]),
oq 114 (.mov (.tmp 113)),
gq 115 114 true (.call (.func 13) []),
oq 116 (.pick (.tmp 114) (.tmp 115) (.const (.bool false))),
oq 8 (.mov (.tmp 116))]) .ret)))))))) }
theorem t4 : tabP Try.prog 0 4 = some ic4 := by kernel_rfl
/-- bandplan/bandplanlaw10.TerrainLines -/
def ic5 : IFn := { ntmps := 59, results := [.tmp 4], code := (.seq (.ops false [
oq 2 (.box 2 (.tmp 0)),
oq 3 (.box 2 (.tmp 1)),
oq 4 (.mov (.const (.bool false)))]) (.seq (.ops false [
oq 10 (.ldn 2 (.tmp 2)),
oq 11 (.ldn 2 (.tmp 3)),
oq 12 (.call (.func 20) [.tmp 10, .tmp 11]),
oq 9 (.mov (.tmp 12)),
oq 13 (.ext (.tmp 9) 0),
oq 14 (.ext (.tmp 9) 1),
oq 5 (.mov (.tmp 13)),
oq 6 (.mov (.tmp 14))]) (.seq (.seq (.ops false [
oq 7 (.mov (cq 0))]) (.block 0 (.loop (.seq (.seq (.ops false [
oq 15 (.mov (.tmp 7)),
oq 16 (.bin .lss (.tmp 15) (.const (.int .i64 4)))]) (.cond (.tmp 16) .skip (.exit 0))) (.seq (.block 1 (.seq (.ops false [
oq 19 (.fad 0 (.tmp 2)),
oq 20 (.ld1 (.tmp 19)),
oq 21 (.fad 1 (.tmp 2)),
oq 22 (.ld1 (.tmp 21)),
oq 23 (.fad 0 (.tmp 3)),
oq 24 (.ld1 (.tmp 23)),
oq 25 (.fad 1 (.tmp 3)),
oq 26 (.ld1 (.tmp 25)),
oq 27 (.bsl 4 [.int .i64 0, .int .i64 0, .int .i64 0, .int .i64 0] [(0, 1, .tmp 20), (1, 1, .tmp 22), (2, 1, .tmp 24), (3, 1, .tmp 26)]),
oq 28 (.mov (.tmp 7)),
oq 29 (.ixs 1 (.tmp 27) (.tmp 28)),
oq 30 (.ld1 (.tmp 29)),
oq 8 (.mov (.tmp 30))]) (.seq (.ops false [
oq 31 (.mov (.tmp 8)),
oq 32 (.bin .lss (.tmp 31) (cq 0)),
oq 33 (.mov (.tmp 32)),
gq 34 33 false (.mov (.tmp 8)),
gq 35 33 false (.bin .gtr (.tmp 34) (.const (.int .i64 63))),
oq 36 (.pick (.tmp 33) (.const (.bool true)) (.tmp 35))]) (.cond (.tmp 36) (.seq (.ops false [
oq 37 (.mov (.tmp 5)),
oq 38 (.len .sl (.tmp 37)),
oq 39 (.bin .eql (.tmp 38) (cq 0)),
oq 40 (.mov (.tmp 39)),
gq 41 40 true (.mov (.tmp 6)),
gq 42 40 true (.bin .eql (.tmp 41) (.const (.int .i64 2))),
oq 43 (.pick (.tmp 40) (.tmp 42) (.const (.bool false))),
oq 44 (.mov (.tmp 43)),
gq 45 44 true (.call (.func 13) []),
oq 46 (.pick (.tmp 44) (.tmp 45) (.const (.bool false))),
oq 4 (.mov (.tmp 46))]) .ret) .skip)))) (.ops false [
oq 17 (.mov (.tmp 7)),
oq 18 (.bin .add (.tmp 17) (cq 1)),
oq 7 (.mov (.tmp 18))])))))) (.seq (.ops false [
oq 47 (.mov (.tmp 6)),
oq 48 (.bin .eql (.tmp 47) (cq 0)),
oq 49 (.mov (.tmp 48)),
gq 50 49 true (.mov (.tmp 5)),
gq 51 49 true (.ldn 2 (.tmp 2)),
gq 52 49 true (.ldn 2 (.tmp 3)),
gq 53 49 true (.call (.func 22) [.tmp 51, .tmp 52]),
gq 54 49 true (.call (.func 21) [.tmp 50, .tmp 53]),
oq 55 (.pick (.tmp 49) (.tmp 54) (.const (.bool false))),
oq 56 (.mov (.tmp 55)),
gq 57 56 true (.call (.func 13) []),
oq 58 (.pick (.tmp 56) (.tmp 57) (.const (.bool false))),
oq 4 (.mov (.tmp 58))]) .ret)))) }
theorem t5 : tabP Try.prog 0 5 = some ic5 := by kernel_rfl
/-- bandplan/bandplanlaw10.TerrainProfiles -/
def ic6 : IFn := { ntmps := 82, results := [.tmp 6], code := (.seq (.ops false [
oq 3 (.box 4 (.tmp 0)),
oq 4 (.box 2 (.tmp 1)),
oq 5 (.box 2 (.tmp 2)),
oq 6 (.mov (.const (.bool false)))]) (.seq (.seq (.ops false [
oq 11 (.ldn 4 (.tmp 3)),
oq 12 (.call (.func 16) [.tmp 11])]) (.cond (.tmp 12) (.seq (.ops false [
oq 13 (.call (.func 13) []),
oq 6 (.mov (.tmp 13))]) .ret) .skip)) (.seq (.ops false [
oq 15 (.ldn 4 (.tmp 3)),
oq 16 (.ldn 2 (.tmp 4)),
oq 17 (.ldn 2 (.tmp 5)),
oq 18 (.call (.func 23) [.tmp 15, .tmp 16, .tmp 17]),
oq 14 (.mov (.tmp 18)),
oq 19 (.ext (.tmp 14) 0),
oq 20 (.ext (.tmp 14) 1),
oq 7 (.mov (.tmp 19)),
oq 8 (.mov (.tmp 20))]) (.seq (.ops false [
oq 22 (.ldn 4 (.tmp 3)),
oq 23 (.ldn 2 (.tmp 4)),
oq 24 (.ldn 2 (.tmp 5)),
oq 25 (.call (.func 24) [.tmp 22, .tmp 23, .tmp 24]),
oq 21 (.mov (.tmp 25)),
oq 26 (.ext (.tmp 21) 0),
oq 27 (.ext (.tmp 21) 1),
oq 9 (.mov (.tmp 26)),
oq 10 (.mov (.tmp 27))]) (.seq (.seq (.ops false [
oq 28 (.ldn 4 (.tmp 3)),
oq 29 (.ldn 2 (.tmp 4)),
oq 30 (.call (.func 18) [.tmp 28, .tmp 29]),
oq 31 (.una .not (.tmp 30)),
oq 32 (.mov (.tmp 31)),
gq 33 32 false (.ldn 4 (.tmp 3)),
gq 34 32 false (.ldn 2 (.tmp 5)),
gq 35 32 false (.call (.func 18) [.tmp 33, .tmp 34]),
gq 36 32 false (.una .not (.tmp 35)),
oq 37 (.pick (.tmp 32) (.const (.bool true)) (.tmp 36))]) (.cond (.tmp 37) (.seq (.ops false [
oq 38 (.mov (.tmp 7)),
oq 39 (.len .sl (.tmp 38)),
oq 40 (.bin .eql (.tmp 39) (cq 0)),
oq 41 (.mov (.tmp 40)),
gq 42 41 true (.mov (.tmp 8)),
gq 43 41 true (.bin .eql (.tmp 42) (.const (.int .i64 2))),
oq 44 (.pick (.tmp 41) (.tmp 43) (.const (.bool false))),
oq 45 (.mov (.tmp 44)),
gq 46 45 true (.mov (.tmp 9)),
gq 47 45 true (.len .sl (.tmp 46)),
gq 48 45 true (.bin .eql (.tmp 47) (cq 0)),
oq 49 (.pick (.tmp 45) (.tmp 48) (.const (.bool false))),
oq 50 (.mov (.tmp 49)),
gq 51 50 true (.mov (.tmp 10)),
gq 52 50 true (.bin .eql (.tmp 51) (.const (.int .i64 2))),
oq 53 (.pick (.tmp 50) (.tmp 52) (.const (.bool false))),
oq 54 (.mov (.tmp 53)),
gq 55 54 true (.call (.func 13) []),
oq 56 (.pick (.tmp 54) (.tmp 55) (.const (.bool false))),
oq 6 (.mov (.tmp 56))]) .ret) .skip)) (.seq (.ops false [
oq 57 (.mov (.tmp 8)),
oq 58 (.bin .eql (.tmp 57) (cq 0)),
oq 59 (.mov (.tmp 58)),
gq 60 59 true (.mov (.tmp 7)),
gq 61 59 true (.ldn 4 (.tmp 3)),
gq 62 59 true (.ldn 2 (.tmp 4)),
gq 63 59 true (.ldn 2 (.tmp 5)),
gq 64 59 true (.call (.func 26) [.tmp 61, .tmp 62, .tmp 63]),
gq 65 59 true (.call (.func 25) [.tmp 60, .tmp 64]),
oq 66 (.pick (.tmp 59) (.tmp 65) (.const (.bool false))),
oq 67 (.mov (.tmp 66)),
gq 68 67 true (.mov (.tmp 10)),
gq 69 67 true (.bin .eql (.tmp 68) (cq 0)),
oq 70 (.pick (.tmp 67) (.tmp 69) (.const (.bool false))),
oq 71 (.mov (.tmp 70)),
gq 72 71 true (.mov (.tmp 9)),
gq 73 71 true (.ldn 4 (.tmp 3)),
gq 74 71 true (.ldn 2 (.tmp 4)),
gq 75 71 true (.ldn 2 (.tmp 5)),
gq 76 71 true (.call (.func 27) [.tmp 73, .tmp 74, .tmp 75]),
gq 77 71 true (.call (.func 25) [.tmp 72, .tmp 76]),
oq 78 (.pick (.tmp 71) (.tmp 77) (.const (.bool false))),
oq 79 (.mov (.tmp 78)),
gq 80 79 true (.call (.func 13) []),
oq 81 (.pick (.tmp 79) (.tmp 80) (.const (.bool false))),
oq 6 (.mov (.tmp 81))]) .ret)))))) }
theorem t6 : tabP Try.prog 0 6 = some ic6 := by kernel_rfl
/-- bandplan/bandplanlaw10.TerrainTotals -/
def ic7 : IFn := { ntmps := 62, results := [.tmp 4], code := (.seq (.ops false [
oq 2 (.box 4 (.tmp 0)),
oq 4 (.mov (.const (.bool false)))]) (.seq (.seq (.ops false [
oq 9 (.ldn 4 (.tmp 2)),
oq 10 (.call (.func 16) [.tmp 9]),
oq 11 (.mov (.tmp 10)),
gq 12 11 false (.mov (.tmp 1)),
gq 13 11 false (.len .sl (.tmp 12)),
gq 14 11 false (.bin .gtr (.tmp 13) (.const (.int .i64 100))),
oq 15 (.pick (.tmp 11) (.const (.bool true)) (.tmp 14))]) (.cond (.tmp 15) (.seq (.ops false [
oq 16 (.call (.func 13) []),
oq 4 (.mov (.tmp 16))]) .ret) .skip)) (.seq (.ops false [
oq 18 (.ldn 4 (.tmp 2)),
oq 19 (.mov (.tmp 1)),
oq 20 (.call (.func 28) [.tmp 18, .tmp 19]),
oq 17 (.mov (.tmp 20)),
oq 21 (.ext (.tmp 17) 0),
oq 22 (.ext (.tmp 17) 1),
oq 5 (.mov (.tmp 21)),
oq 6 (.mov (.tmp 22))]) (.seq (.seq (.ops false [
oq 23 (.ldn 4 (.tmp 2)),
oq 24 (.call (.func 29) [.tmp 23]),
oq 25 (.una .not (.tmp 24))]) (.cond (.tmp 25) (.seq (.ops false [
oq 26 (.mov (.tmp 5)),
oq 27 (.bin .eql (.tmp 26) (cq 0)),
oq 28 (.mov (.tmp 27)),
gq 29 28 true (.mov (.tmp 6)),
gq 30 28 true (.bin .eql (.tmp 29) (.const (.int .i64 2))),
oq 31 (.pick (.tmp 28) (.tmp 30) (.const (.bool false))),
oq 32 (.mov (.tmp 31)),
gq 33 32 true (.call (.func 13) []),
oq 34 (.pick (.tmp 32) (.tmp 33) (.const (.bool false))),
oq 4 (.mov (.tmp 34))]) .ret) .skip)) (.seq (.ops false [
oq 36 (.ldn 4 (.tmp 2)),
oq 37 (.mov (.tmp 1)),
oq 38 (.call (.func 30) [.tmp 36, .tmp 37]),
oq 35 (.mov (.tmp 38)),
oq 39 (.ext (.tmp 35) 0),
oq 40 (.ext (.tmp 35) 1),
oq 7 (.mov (.tmp 39)),
oq 8 (.mov (.tmp 40))]) (.seq (.seq (.ops false [
oq 41 (.mov (.tmp 8)),
oq 42 (.una .not (.tmp 41))]) (.cond (.tmp 42) (.seq (.ops false [
oq 43 (.mov (.tmp 5)),
oq 44 (.bin .eql (.tmp 43) (cq 0)),
oq 45 (.mov (.tmp 44)),
gq 46 45 true (.mov (.tmp 6)),
gq 47 45 true (.bin .eql (.tmp 46) (.const (.int .i64 2))),
oq 48 (.pick (.tmp 45) (.tmp 47) (.const (.bool false))),
oq 49 (.mov (.tmp 48)),
gq 50 49 true (.call (.func 13) []),
oq 51 (.pick (.tmp 49) (.tmp 50) (.const (.bool false))),
oq 4 (.mov (.tmp 51))]) .ret) .skip)) (.seq (.ops false [
oq 52 (.mov (.tmp 5)),
oq 53 (.mov (.tmp 7)),
oq 54 (.bin .eql (.tmp 52) (.tmp 53)),
oq 55 (.mov (.tmp 54)),
gq 56 55 true (.mov (.tmp 6)),
gq 57 55 true (.bin .eql (.tmp 56) (cq 0)),
oq 58 (.pick (.tmp 55) (.tmp 57) (.const (.bool false))),
oq 59 (.mov (.tmp 58)),
gq 60 59 true (.call (.func 13) []),
oq 61 (.pick (.tmp 59) (.tmp 60) (.const (.bool false))),
oq 4 (.mov (.tmp 61))]) .ret))))))) }
theorem t7 : tabP Try.prog 0 7 = some ic7 := by kernel_rfl
/-- bandplan/bandplanlaw10.TerrainSymmetry -/
def ic8 : IFn := { ntmps := 284, results := [.tmp 8], code := (.seq (.ops false [
oq 4 (.box 4 (.tmp 0)),
oq 5 (.box 2 (.tmp 1)),
oq 6 (.box 2 (.tmp 2)),
oq 8 (.mov (.const (.bool false)))]) (.seq (.seq (.ops false [
oq 28 (.ldn 4 (.tmp 4)),
oq 29 (.call (.func 16) [.tmp 28]),
oq 30 (.mov (.tmp 29)),
gq 31 30 false (.ldn 4 (.tmp 4)),
gq 32 30 false (.ldn 2 (.tmp 5)),
gq 33 30 false (.call (.func 18) [.tmp 31, .tmp 32]),
gq 34 30 false (.una .not (.tmp 33)),
oq 35 (.pick (.tmp 30) (.const (.bool true)) (.tmp 34)),
oq 36 (.mov (.tmp 35)),
gq 37 36 false (.ldn 4 (.tmp 4)),
gq 38 36 false (.ldn 2 (.tmp 6)),
gq 39 36 false (.call (.func 18) [.tmp 37, .tmp 38]),
gq 40 36 false (.una .not (.tmp 39)),
oq 41 (.pick (.tmp 36) (.const (.bool true)) (.tmp 40))]) (.cond (.tmp 41) (.seq (.ops false [
oq 42 (.call (.func 13) []),
oq 8 (.mov (.tmp 42))]) .ret) .skip)) (.seq (.ops false [
oq 44 (.ldn 2 (.tmp 5)),
oq 45 (.ldn 2 (.tmp 6)),
oq 46 (.call (.func 20) [.tmp 44, .tmp 45]),
oq 43 (.mov (.tmp 46)),
oq 47 (.ext (.tmp 43) 0),
oq 48 (.ext (.tmp 43) 1),
oq 9 (.mov (.tmp 47)),
oq 10 (.mov (.tmp 48))]) (.seq (.ops false [
oq 50 (.ldn 2 (.tmp 6)),
oq 51 (.ldn 2 (.tmp 5)),
oq 52 (.call (.func 20) [.tmp 50, .tmp 51]),
oq 49 (.mov (.tmp 52)),
oq 53 (.ext (.tmp 49) 0),
oq 54 (.ext (.tmp 49) 1),
oq 11 (.mov (.tmp 53)),
oq 12 (.mov (.tmp 54))]) (.seq (.seq (.ops false [
oq 55 (.mov (.tmp 10)),
oq 56 (.bin .neq (.tmp 55) (cq 0)),
oq 57 (.mov (.tmp 56)),
gq 58 57 false (.mov (.tmp 12)),
gq 59 57 false (.bin .neq (.tmp 58) (cq 0)),
oq 60 (.pick (.tmp 57) (.const (.bool true)) (.tmp 59)),
oq 61 (.mov (.tmp 60)),
gq 62 61 false (.mov (.tmp 9)),
gq 63 61 false (.len .sl (.tmp 62)),
gq 64 61 false (.mov (.tmp 11)),
gq 65 61 false (.len .sl (.tmp 64)),
gq 66 61 false (.bin .neq (.tmp 63) (.tmp 65)),
oq 67 (.pick (.tmp 61) (.const (.bool true)) (.tmp 66)),
oq 68 (.mov (.tmp 67)),
gq 69 68 false (.mov (.tmp 9)),
gq 70 68 false (.len .sl (.tmp 69)),
gq 71 68 false (.bin .eql (.tmp 70) (cq 0)),
gq 72 68 false (.mov (.tmp 71)),
gq 73 72 true (.ldn 2 (.tmp 5)),
gq 74 72 true (.ldn 2 (.tmp 6)),
gq 75 72 true (.call (.func 31) [.tmp 73, .tmp 74]),
gq 76 72 true (.una .not (.tmp 75)),
gq 77 68 false (.pick (.tmp 72) (.tmp 76) (.const (.bool false))),
oq 78 (.pick (.tmp 68) (.const (.bool true)) (.tmp 77))]) (.cond (.tmp 78) (.seq (.ops false [
oq 8 (.mov (.const (.bool false)))]) .ret) .skip)) (.seq (.seq (.ops false [
oq 13 (.mov (cq 0))]) (.block 0 (.loop (.seq (.seq (.ops false [
oq 79 (.mov (.tmp 13)),
oq 80 (.mov (.tmp 9)),
oq 81 (.len .sl (.tmp 80)),
oq 82 (.bin .lss (.tmp 79) (.tmp 81))]) (.cond (.tmp 82) .skip (.exit 0))) (.seq (.block 1 (.seq (.seq (.ops true [
oq 85 (.mov (.tmp 9)),
oq 86 (.mov (.tmp 13)),
oq 87 (.ixs 2 (.tmp 85) (.tmp 86)),
oq 88 (.ldn 2 (.tmp 87)),
oq 89 (.mov (.tmp 11)),
oq 90 (.mov (.tmp 11)),
oq 91 (.len .sl (.tmp 90)),
oq 92 (.bin .sub (.tmp 91) (cq 1)),
oq 93 (.mov (.tmp 13)),
oq 94 (.bin .sub (.tmp 92) (.tmp 93)),
oq 95 (.ixs 2 (.tmp 89) (.tmp 94)),
oq 96 (.ldn 2 (.tmp 95)),
oq 97 (.eq (.flat [.i, .i]) true (.tmp 88) (.tmp 96)),
oq 98 (.mov (.tmp 97)),
gq 99 98 false (.ldn 4 (.tmp 4)),
gq 100 98 false (.mov (.tmp 9)),
gq 101 98 false (.mov (.tmp 13)),
gq 102 98 false (.ixs 2 (.tmp 100) (.tmp 101)),
gq 103 98 false (.ldn 2 (.tmp 102)),
gq 104 98 false (.call (.func 32) [.tmp 99, .tmp 103]),
gq 105 98 false (.una .not (.tmp 104)),
oq 106 (.pick (.tmp 98) (.const (.bool true)) (.tmp 105)),
oq 107 (.mov (.tmp 106)),
gq 108 107 false (.mov (.tmp 9)),
gq 109 107 false (.mov (.tmp 13)),
gq 110 107 false (.ixs 2 (.tmp 108) (.tmp 109)),
gq 111 107 false (.ldn 2 (.tmp 110)),
gq 112 107 false (.ldn 2 (.tmp 5)),
gq 113 107 false (.eq (.flat [.i, .i]) false (.tmp 111) (.tmp 112)),
oq 114 (.pick (.tmp 107) (.const (.bool true)) (.tmp 113)),
oq 115 (.mov (.tmp 114)),
gq 116 115 false (.mov (.tmp 9)),
gq 117 115 false (.mov (.tmp 13)),
gq 118 115 false (.ixs 2 (.tmp 116) (.tmp 117)),
gq 119 115 false (.ldn 2 (.tmp 118)),
gq 120 115 false (.ldn 2 (.tmp 6)),
gq 121 115 false (.eq (.flat [.i, .i]) false (.tmp 119) (.tmp 120)),
oq 122 (.pick (.tmp 115) (.const (.bool true)) (.tmp 121))]) (.cond (.tmp 122) (.seq (.ops false [
oq 8 (.mov (.const (.bool false)))]) .ret) .skip)) (.seq (.ops true [
oq 123 (.mov (.tmp 13)),
oq 124 (.bin .gtr (.tmp 123) (cq 0)),
oq 125 (.mov (.tmp 124)),
gq 126 125 true (.mov (.tmp 9)),
gq 127 125 true (.mov (.tmp 13)),
gq 128 125 true (.bin .sub (.tmp 127) (cq 1)),
gq 129 125 true (.ixs 2 (.tmp 126) (.tmp 128)),
gq 130 125 true (.ldn 2 (.tmp 129)),
gq 131 125 true (.mov (.tmp 9)),
gq 132 125 true (.mov (.tmp 13)),
gq 133 125 true (.ixs 2 (.tmp 131) (.tmp 132)),
gq 134 125 true (.ldn 2 (.tmp 133)),
gq 135 125 true (.call (.func 31) [.tmp 130, .tmp 134]),
gq 136 125 true (.una .not (.tmp 135)),
gq 137 125 true (.mov (.tmp 136)),
gq 138 137 false (.mov (.tmp 9)),
gq 139 137 false (.mov (.tmp 13)),
gq 140 137 false (.bin .sub (.tmp 139) (cq 1)),
gq 141 137 false (.ixs 2 (.tmp 138) (.tmp 140)),
gq 142 137 false (.ldn 2 (.tmp 141)),
gq 143 137 false (.mov (.tmp 9)),
gq 144 137 false (.mov (.tmp 13)),
gq 145 137 false (.ixs 2 (.tmp 143) (.tmp 144)),
gq 146 137 false (.ldn 2 (.tmp 145)),
gq 147 137 false (.eq (.flat [.i, .i]) false (.tmp 142) (.tmp 146)),
gq 148 125 true (.pick (.tmp 137) (.const (.bool true)) (.tmp 147)),
oq 149 (.pick (.tmp 125) (.tmp 148) (.const (.bool false)))]) (.cond (.tmp 149) (.seq (.ops false [
oq 8 (.mov (.const (.bool false)))]) .ret) .skip)))) (.ops false [
oq 83 (.mov (.tmp 13)),
oq 84 (.bin .add (.tmp 83) (cq 1)),
oq 13 (.mov (.tmp 84))])))))) (.seq (.seq (.ops true [
oq 150 (.mov (.tmp 9)),
oq 151 (.len .sl (.tmp 150)),
oq 152 (.bin .gtr (.tmp 151) (cq 0)),
oq 153 (.mov (.tmp 152)),
gq 154 153 true (.ldn 2 (.tmp 5)),
gq 155 153 true (.mov (.tmp 9)),
gq 156 153 true (.ixs 2 (.tmp 155) (cq 0)),
gq 157 153 true (.ldn 2 (.tmp 156)),
gq 158 153 true (.call (.func 31) [.tmp 154, .tmp 157]),
gq 159 153 true (.una .not (.tmp 158)),
gq 160 153 true (.mov (.tmp 159)),
gq 161 160 false (.mov (.tmp 9)),
gq 162 160 false (.mov (.tmp 9)),
gq 163 160 false (.len .sl (.tmp 162)),
gq 164 160 false (.bin .sub (.tmp 163) (cq 1)),
gq 165 160 false (.ixs 2 (.tmp 161) (.tmp 164)),
gq 166 160 false (.ldn 2 (.tmp 165)),
gq 167 160 false (.ldn 2 (.tmp 6)),
gq 168 160 false (.call (.func 31) [.tmp 166, .tmp 167]),
gq 169 160 false (.una .not (.tmp 168)),
gq 170 153 true (.pick (.tmp 160) (.const (.bool true)) (.tmp 169)),
oq 171 (.pick (.tmp 153) (.tmp 170) (.const (.bool false)))]) (.cond (.tmp 171) (.seq (.ops false [
oq 8 (.mov (.const (.bool false)))]) .ret) .skip)) (.seq (.ops true [
oq 172 (.fad 0 (.tmp 5)),
oq 173 (.ld1 (.tmp 172)),
oq 174 (.fad 0 (.tmp 6)),
oq 175 (.ld1 (.tmp 174)),
oq 14 (.mov (.tmp 173)),
oq 15 (.mov (.tmp 175))]) (.seq (.seq (.ops false [
oq 176 (.mov (.tmp 14)),
oq 177 (.mov (.tmp 15)),
oq 178 (.bin .gtr (.tmp 176) (.tmp 177))]) (.cond (.tmp 178) (.ops false [
oq 179 (.mov (.tmp 15)),
oq 180 (.mov (.tmp 14)),
oq 14 (.mov (.tmp 179)),
oq 15 (.mov (.tmp 180))]) .skip)) (.seq (.seq (.ops false [
oq 181 (.mov (.tmp 3)),
oq 182 (.mov (.tmp 14)),
oq 183 (.bin .lss (.tmp 181) (.tmp 182)),
oq 184 (.mov (.tmp 183)),
gq 185 184 false (.mov (.tmp 3)),
gq 186 184 false (.mov (.tmp 15)),
gq 187 184 false (.bin .geq (.tmp 185) (.tmp 186)),
oq 188 (.pick (.tmp 184) (.const (.bool true)) (.tmp 187))]) (.cond (.tmp 188) (.seq (.ops false [
oq 189 (.call (.func 13) []),
oq 8 (.mov (.tmp 189))]) .ret) .skip)) (.seq (.ops false [
oq 191 (.ldn 4 (.tmp 4)),
oq 192 (.ldn 2 (.tmp 5)),
oq 193 (.ldn 2 (.tmp 6)),
oq 194 (.call (.func 24) [.tmp 191, .tmp 192, .tmp 193]),
oq 190 (.mov (.tmp 194)),
oq 195 (.ext (.tmp 190) 0),
oq 196 (.ext (.tmp 190) 1),
oq 16 (.mov (.tmp 195)),
oq 17 (.mov (.tmp 196))]) (.seq (.ops false [
oq 198 (.ldn 4 (.tmp 4)),
oq 199 (.mov (.tmp 14)),
oq 200 (.fad 1 (.tmp 5)),
oq 201 (.ld1 (.tmp 200)),
oq 202 (.bld [.int .i64 0, .int .i64 0] [(0, 1, .tmp 199), (1, 1, .tmp 201)]),
oq 203 (.mov (.tmp 3)),
oq 204 (.fad 1 (.tmp 6)),
oq 205 (.ld1 (.tmp 204)),
oq 206 (.bld [.int .i64 0, .int .i64 0] [(0, 1, .tmp 203), (1, 1, .tmp 205)]),
oq 207 (.call (.func 24) [.tmp 198, .tmp 202, .tmp 206]),
oq 197 (.mov (.tmp 207)),
oq 208 (.ext (.tmp 197) 0),
oq 209 (.ext (.tmp 197) 1),
oq 18 (.mov (.tmp 208)),
oq 19 (.mov (.tmp 209))]) (.seq (.ops false [
oq 211 (.ldn 4 (.tmp 4)),
oq 212 (.mov (.tmp 3)),
oq 213 (.bin .add (.tmp 212) (cq 1)),
oq 214 (.fad 1 (.tmp 5)),
oq 215 (.ld1 (.tmp 214)),
oq 216 (.bld [.int .i64 0, .int .i64 0] [(0, 1, .tmp 213), (1, 1, .tmp 215)]),
oq 217 (.mov (.tmp 15)),
oq 218 (.fad 1 (.tmp 6)),
oq 219 (.ld1 (.tmp 218)),
oq 220 (.bld [.int .i64 0, .int .i64 0] [(0, 1, .tmp 217), (1, 1, .tmp 219)]),
oq 221 (.call (.func 24) [.tmp 211, .tmp 216, .tmp 220]),
oq 210 (.mov (.tmp 221)),
oq 222 (.ext (.tmp 210) 0),
oq 223 (.ext (.tmp 210) 1),
oq 20 (.mov (.tmp 222)),
oq 21 (.mov (.tmp 223))]) (.seq (.ops false [
oq 225 (.ldn 4 (.tmp 4)),
oq 226 (.mov (.tmp 16)),
oq 227 (.call (.func 28) [.tmp 225, .tmp 226]),
oq 224 (.mov (.tmp 227)),
oq 228 (.ext (.tmp 224) 0),
oq 229 (.ext (.tmp 224) 1),
oq 22 (.mov (.tmp 228)),
oq 23 (.mov (.tmp 229))]) (.seq (.ops false [
oq 231 (.ldn 4 (.tmp 4)),
oq 232 (.mov (.tmp 18)),
oq 233 (.call (.func 28) [.tmp 231, .tmp 232]),
oq 230 (.mov (.tmp 233)),
oq 234 (.ext (.tmp 230) 0),
oq 235 (.ext (.tmp 230) 1),
oq 24 (.mov (.tmp 234)),
oq 25 (.mov (.tmp 235))]) (.seq (.ops false [
oq 237 (.ldn 4 (.tmp 4)),
oq 238 (.mov (.tmp 20)),
oq 239 (.call (.func 28) [.tmp 237, .tmp 238]),
oq 236 (.mov (.tmp 239)),
oq 240 (.ext (.tmp 236) 0),
oq 241 (.ext (.tmp 236) 1),
oq 26 (.mov (.tmp 240)),
oq 27 (.mov (.tmp 241))]) (.seq (.ops false [
oq 242 (.mov (.tmp 17)),
oq 243 (.bin .eql (.tmp 242) (cq 0)),
oq 244 (.mov (.tmp 243)),
gq 245 244 true (.mov (.tmp 19)),
gq 246 244 true (.bin .eql (.tmp 245) (cq 0)),
oq 247 (.pick (.tmp 244) (.tmp 246) (.const (.bool false))),
oq 248 (.mov (.tmp 247)),
gq 249 248 true (.mov (.tmp 21)),
gq 250 248 true (.bin .eql (.tmp 249) (cq 0)),
oq 251 (.pick (.tmp 248) (.tmp 250) (.const (.bool false))),
oq 252 (.mov (.tmp 251)),
gq 253 252 true (.mov (.tmp 23)),
gq 254 252 true (.bin .eql (.tmp 253) (cq 0)),
oq 255 (.pick (.tmp 252) (.tmp 254) (.const (.bool false))),
oq 256 (.mov (.tmp 255)),
gq 257 256 true (.mov (.tmp 25)),
gq 258 256 true (.bin .eql (.tmp 257) (cq 0)),
oq 259 (.pick (.tmp 256) (.tmp 258) (.const (.bool false))),
oq 260 (.mov (.tmp 259)),
gq 261 260 true (.mov (.tmp 27)),
gq 262 260 true (.bin .eql (.tmp 261) (cq 0)),
oq 263 (.pick (.tmp 260) (.tmp 262) (.const (.bool false))),
oq 264 (.mov (.tmp 263)),
gq 265 264 true (.mov (.tmp 16)),
gq 266 264 true (.len .sl (.tmp 265)),
gq 267 264 true (.mov (.tmp 18)),
gq 268 264 true (.len .sl (.tmp 267)),
gq 269 264 true (.mov (.tmp 20)),
gq 270 264 true (.len .sl (.tmp 269)),
gq 271 264 true (.bin .add (.tmp 268) (.tmp 270)),
gq 272 264 true (.bin .eql (.tmp 266) (.tmp 271)),
oq 273 (.pick (.tmp 264) (.tmp 272) (.const (.bool false))),
oq 274 (.mov (.tmp 273)),
gq 275 274 true (.mov (.tmp 22)),
gq 276 274 true (.mov (.tmp 24)),
gq 277 274 true (.mov (.tmp 26)),
gq 278 274 true (.bin .add (.tmp 276) (.tmp 277)),
gq 279 274 true (.bin .eql (.tmp 275) (.tmp 278)),
oq 280 (.pick (.tmp 274) (.tmp 279) (.const (.bool false))),
oq 281 (.mov (.tmp 280)),
gq 282 281 true (.call (.func 13) []),
oq 283 (.pick (.tmp 281) (.tmp 282) (.const (.bool false))),
oq 8 (.mov (.tmp 283))]) .ret))))))))))))))))) }
theorem t8 : tabP Try.prog 0 8 = some ic8 := by kernel_rfl
/-- bandplan/bandplanlaw10.TerrainCells -/
def ic9 : IFn := { ntmps := 156, results := [.tmp 6], code := (.seq (.ops false [
oq 3 (.box 4 (.tmp 0)),
oq 4 (.box 2 (.tmp 1)),
oq 6 (.mov (.const (.bool false)))]) (.seq (.seq (.ops false [
oq 17 (.ldn 4 (.tmp 3)),
oq 18 (.call (.func 16) [.tmp 17])]) (.cond (.tmp 18) (.seq (.ops false [
oq 19 (.call (.func 13) []),
oq 6 (.mov (.tmp 19))]) .ret) .skip)) (.seq (.ops false [
oq 20 (.ldn 4 (.tmp 3)),
oq 21 (.ldn 2 (.tmp 4)),
oq 22 (.call (.func 18) [.tmp 20, .tmp 21]),
oq 7 (.mov (.tmp 22))]) (.seq (.ops false [
oq 24 (.ldn 4 (.tmp 3)),
oq 25 (.ldn 2 (.tmp 4)),
oq 26 (.call (.func 33) [.tmp 24, .tmp 25]),
oq 23 (.mov (.tmp 26)),
oq 27 (.ext (.tmp 23) 0),
oq 28 (.ext (.tmp 23) 1),
oq 8 (.mov (.tmp 27)),
oq 9 (.mov (.tmp 28))]) (.seq (.ops false [
oq 30 (.ldn 4 (.tmp 3)),
oq 31 (.ldn 2 (.tmp 4)),
oq 32 (.call (.func 34) [.tmp 30, .tmp 31]),
oq 29 (.mov (.tmp 32)),
oq 33 (.ext (.tmp 29) 0),
oq 34 (.ext (.tmp 29) 1),
oq 10 (.mov (.tmp 33)),
oq 11 (.mov (.tmp 34))]) (.seq (.ops false [
oq 36 (.ldn 4 (.tmp 3)),
oq 37 (.ldn 2 (.tmp 4)),
oq 38 (.call (.func 35) [.tmp 36, .tmp 37]),
oq 35 (.mov (.tmp 38)),
oq 39 (.ext (.tmp 35) 0),
oq 40 (.ext (.tmp 35) 1),
oq 12 (.mov (.tmp 39)),
oq 13 (.mov (.tmp 40))]) (.seq (.ops false [
oq 42 (.ldn 4 (.tmp 3)),
oq 43 (.mov (.tmp 2)),
oq 44 (.call (.func 36) [.tmp 42, .tmp 43]),
oq 41 (.mov (.tmp 44)),
oq 45 (.ext (.tmp 41) 0),
oq 46 (.ext (.tmp 41) 1),
oq 14 (.new [.int .i64 0, .int .i64 0]),
⟨none, none, false, .sto 2 (.tmp 14) (.tmp 45)⟩,
oq 15 (.mov (.tmp 46))]) (.seq (.seq (.ops true [
oq 47 (.ldn 4 (.tmp 3)),
⟨some 48, none, true, .call (.func 15) [.tmp 47]⟩,
oq 49 (.ldn 4 (.tmp 3)),
oq 50 (.call (.func 29) [.tmp 49]),
oq 51 (.eq .bool true (.tmp 48) (.tmp 50)),
oq 52 (.mov (.tmp 51)),
gq 53 52 false (.ldn 4 (.tmp 3)),
gq 54 52 false (.ldn 2 (.tmp 4)),
gq 55 52 false (.call (.func 32) [.tmp 53, .tmp 54]),
gq 56 52 false (.mov (.tmp 7)),
gq 57 52 false (.eq .bool true (.tmp 55) (.tmp 56)),
oq 58 (.pick (.tmp 52) (.const (.bool true)) (.tmp 57))]) (.cond (.tmp 58) (.seq (.ops false [
oq 6 (.mov (.const (.bool false)))]) .ret) .skip)) (.seq (.seq (.ops false [
oq 59 (.mov (.tmp 7))]) (.cond (.tmp 59) (.seq (.ops false [
oq 60 (.ldn 4 (.tmp 3)),
oq 61 (.ldn 2 (.tmp 4)),
oq 62 (.call (.func 37) [.tmp 60, .tmp 61]),
oq 16 (.mov (.tmp 62))]) (.seq (.ops false [
oq 63 (.mov (.tmp 8)),
oq 64 (.mov (.tmp 16)),
oq 65 (.bin .neq (.tmp 63) (.tmp 64)),
oq 66 (.mov (.tmp 65)),
gq 67 66 false (.mov (.tmp 9)),
gq 68 66 false (.bin .neq (.tmp 67) (cq 0)),
oq 69 (.pick (.tmp 66) (.const (.bool true)) (.tmp 68)),
oq 70 (.mov (.tmp 69)),
gq 71 70 false (.mov (.tmp 10)),
gq 72 70 false (.fad 2 (.tmp 3)),
gq 73 70 false (.ld1 (.tmp 72)),
gq 74 70 false (.mov (.tmp 16)),
gq 75 70 false (.ixs 1 (.tmp 73) (.tmp 74)),
gq 76 70 false (.ld1 (.tmp 75)),
gq 77 70 false (.bin .neq (.tmp 71) (.tmp 76)),
oq 78 (.pick (.tmp 70) (.const (.bool true)) (.tmp 77)),
oq 79 (.mov (.tmp 78)),
gq 80 79 false (.mov (.tmp 11)),
gq 81 79 false (.bin .neq (.tmp 80) (cq 0)),
oq 82 (.pick (.tmp 79) (.const (.bool true)) (.tmp 81)),
oq 83 (.mov (.tmp 82)),
gq 84 83 false (.mov (.tmp 12)),
gq 85 83 false (.fad 3 (.tmp 3)),
gq 86 83 false (.ld1 (.tmp 85)),
gq 87 83 false (.mov (.tmp 16)),
gq 88 83 false (.ixs 1 (.tmp 86) (.tmp 87)),
gq 89 83 false (.ld1 (.tmp 88)),
gq 90 83 false (.bin .neq (.tmp 84) (.tmp 89)),
oq 91 (.pick (.tmp 83) (.const (.bool true)) (.tmp 90)),
oq 92 (.mov (.tmp 91)),
gq 93 92 false (.mov (.tmp 13)),
gq 94 92 false (.bin .neq (.tmp 93) (cq 0)),
oq 95 (.pick (.tmp 92) (.const (.bool true)) (.tmp 94))]) (.cond (.tmp 95) (.seq (.ops false [
oq 6 (.mov (.const (.bool false)))]) .ret) .skip))) (.seq (.ops false [
oq 96 (.mov (.tmp 8)),
oq 97 (.bin .neq (.tmp 96) (cq 0)),
oq 98 (.mov (.tmp 97)),
gq 99 98 false (.mov (.tmp 9)),
gq 100 98 false (.bin .neq (.tmp 99) (.const (.int .i64 2))),
oq 101 (.pick (.tmp 98) (.const (.bool true)) (.tmp 100)),
oq 102 (.mov (.tmp 101)),
gq 103 102 false (.mov (.tmp 10)),
gq 104 102 false (.bin .neq (.tmp 103) (cq 0)),
oq 105 (.pick (.tmp 102) (.const (.bool true)) (.tmp 104)),
oq 106 (.mov (.tmp 105)),
gq 107 106 false (.mov (.tmp 11)),
gq 108 106 false (.bin .neq (.tmp 107) (.const (.int .i64 2))),
oq 109 (.pick (.tmp 106) (.const (.bool true)) (.tmp 108)),
oq 110 (.mov (.tmp 109)),
gq 111 110 false (.mov (.tmp 12)),
gq 112 110 false (.bin .neq (.tmp 111) (cq 0)),
oq 113 (.pick (.tmp 110) (.const (.bool true)) (.tmp 112)),
oq 114 (.mov (.tmp 113)),
gq 115 114 false (.mov (.tmp 13)),
gq 116 114 false (.bin .neq (.tmp 115) (.const (.int .i64 2))),
oq 117 (.pick (.tmp 114) (.const (.bool true)) (.tmp 116))]) (.cond (.tmp 117) (.seq (.ops false [
oq 6 (.mov (.const (.bool false)))]) .ret) .skip)))) (.seq (.seq (.ops false [
oq 118 (.ldn 4 (.tmp 3)),
oq 119 (.call (.func 29) [.tmp 118]),
oq 120 (.una .not (.tmp 119)),
oq 121 (.mov (.tmp 120)),
gq 122 121 false (.mov (.tmp 2)),
gq 123 121 false (.bin .lss (.tmp 122) (cq 0)),
oq 124 (.pick (.tmp 121) (.const (.bool true)) (.tmp 123)),
oq 125 (.mov (.tmp 124)),
gq 126 125 false (.mov (.tmp 2)),
gq 127 125 false (.fad 0 (.tmp 3)),
gq 128 125 false (.ld1 (.tmp 127)),
gq 129 125 false (.fad 1 (.tmp 3)),
gq 130 125 false (.ld1 (.tmp 129)),
gq 131 125 false (.bin .mul (.tmp 128) (.tmp 130)),
gq 132 125 false (.bin .geq (.tmp 126) (.tmp 131)),
oq 133 (.pick (.tmp 125) (.const (.bool true)) (.tmp 132))]) (.cond (.tmp 133) (.seq (.ops false [
oq 134 (.ldn 2 (.tmp 14)),
oq 135 (.bld [.int .i64 0, .int .i64 0] []),
oq 136 (.eq (.flat [.i, .i]) false (.tmp 134) (.tmp 135)),
oq 137 (.mov (.tmp 136)),
gq 138 137 true (.mov (.tmp 15)),
gq 139 137 true (.bin .eql (.tmp 138) (.const (.int .i64 2))),
oq 140 (.pick (.tmp 137) (.tmp 139) (.const (.bool false))),
oq 141 (.mov (.tmp 140)),
gq 142 141 true (.call (.func 13) []),
oq 143 (.pick (.tmp 141) (.tmp 142) (.const (.bool false))),
oq 6 (.mov (.tmp 143))]) .ret) .skip)) (.seq (.ops true [
oq 144 (.ldn 2 (.tmp 14)),
oq 145 (.ldn 4 (.tmp 3)),
oq 146 (.mov (.tmp 2)),
⟨some 147, none, true, .call (.func 38) [.tmp 145, .tmp 146]⟩,
oq 148 (.eq (.flat [.i, .i]) false (.tmp 144) (.tmp 147)),
oq 149 (.mov (.tmp 148)),
gq 150 149 true (.mov (.tmp 15)),
gq 151 149 true (.bin .eql (.tmp 150) (cq 0)),
oq 152 (.pick (.tmp 149) (.tmp 151) (.const (.bool false))),
oq 153 (.mov (.tmp 152)),
gq 154 153 true (.call (.func 13) []),
oq 155 (.pick (.tmp 153) (.tmp 154) (.const (.bool false))),
oq 6 (.mov (.tmp 155))]) .ret))))))))))) }
theorem t9 : tabP Try.prog 0 9 = some ic9 := by kernel_rfl
/-- bandplan/bandplanlaw10.TerrainCopies -/
def ic10 : IFn := { ntmps := 82, results := [.tmp 4], code := (.seq (.ops false [
oq 2 (.box 4 (.tmp 0)),
oq 3 (.box 4 (.tmp 1)),
oq 4 (.mov (.const (.bool false)))]) (.seq (.seq (.ops false [
oq 9 (.ldn 4 (.tmp 2)),
oq 10 (.call (.func 16) [.tmp 9]),
oq 11 (.mov (.tmp 10)),
gq 12 11 false (.ldn 4 (.tmp 3)),
gq 13 11 false (.call (.func 16) [.tmp 12]),
oq 14 (.pick (.tmp 11) (.const (.bool true)) (.tmp 13))]) (.cond (.tmp 14) (.seq (.ops false [
oq 15 (.call (.func 13) []),
oq 4 (.mov (.tmp 15))]) .ret) .skip)) (.seq (.seq (.ops true [
oq 16 (.ldn 4 (.tmp 2)),
oq 17 (.ldn 4 (.tmp 3)),
⟨some 18, none, true, .call (.func 39) [.tmp 16, .tmp 17]⟩,
oq 19 (.ldn 4 (.tmp 2)),
oq 20 (.ldn 4 (.tmp 3)),
oq 21 (.call (.func 12) [.tmp 19, .tmp 20]),
oq 22 (.eq .bool true (.tmp 18) (.tmp 21)),
oq 23 (.mov (.tmp 22)),
gq 24 23 false (.ldn 4 (.tmp 2)),
gq 25 23 false (.ldn 4 (.tmp 2)),
gq 26 23 false (.call (.func 39) [.tmp 24, .tmp 25]),
gq 27 23 false (.una .not (.tmp 26)),
oq 28 (.pick (.tmp 23) (.const (.bool true)) (.tmp 27))]) (.cond (.tmp 28) (.seq (.ops false [
oq 4 (.mov (.const (.bool false)))]) .ret) .skip)) (.seq (.ops true [
oq 29 (.fad 0 (.tmp 2)),
oq 30 (.ld1 (.tmp 29)),
oq 31 (.fad 1 (.tmp 2)),
oq 32 (.ld1 (.tmp 31)),
oq 33 (.bsl 0 [] []),
oq 34 (.fad 2 (.tmp 2)),
oq 35 (.ld1 (.tmp 34)),
⟨some 36, none, true, .app 1 8 (.tmp 33) (.tmp 35)⟩,
oq 37 (.bsl 0 [] []),
oq 38 (.fad 3 (.tmp 2)),
oq 39 (.ld1 (.tmp 38)),
⟨some 40, none, true, .app 1 8 (.tmp 37) (.tmp 39)⟩,
oq 41 (.bld [.int .i64 0, .int .i64 0, .slice none 0 0, .slice none 0 0] [(0, 1, .tmp 30), (1, 1, .tmp 32), (2, 1, .tmp 36), (3, 1, .tmp 40)]),
oq 5 (.new [.int .i64 0, .int .i64 0, .slice none 0 0, .slice none 0 0]),
⟨none, none, false, .sto 4 (.tmp 5) (.tmp 41)⟩]) (.seq (.ops false [
oq 42 (.ldn 4 (.tmp 2)),
oq 43 (.call (.func 40) [.tmp 42]),
oq 6 (.new [.int .i64 0, .int .i64 0, .slice none 0 0, .slice none 0 0]),
⟨none, none, false, .sto 4 (.tmp 6) (.tmp 43)⟩]) (.seq (.seq (.ops false [
oq 44 (.ldn 4 (.tmp 6)),
oq 45 (.ldn 4 (.tmp 2)),
oq 46 (.call (.func 12) [.tmp 44, .tmp 45]),
oq 47 (.una .not (.tmp 46))]) (.cond (.tmp 47) (.seq (.ops false [
oq 4 (.mov (.const (.bool false)))]) .ret) .skip)) (.seq (.seq (.ops false [
oq 7 (.mov (cq 0))]) (.block 0 (.loop (.seq (.seq (.ops false [
oq 48 (.mov (.tmp 7)),
oq 49 (.fad 2 (.tmp 6)),
oq 50 (.ld1 (.tmp 49)),
oq 51 (.len .sl (.tmp 50)),
oq 52 (.bin .lss (.tmp 48) (.tmp 51))]) (.cond (.tmp 52) .skip (.exit 0))) (.seq (.block 1 (.ops false [
oq 55 (.fad 2 (.tmp 6)),
oq 56 (.ld1 (.tmp 55)),
oq 57 (.mov (.tmp 7)),
oq 58 (.ixs 1 (.tmp 56) (.tmp 57)),
oq 59 (.ld1 (.tmp 58)),
oq 60 (.bin .add (.tmp 59) (cq 1)),
oq 61 (.ixs 1 (.tmp 56) (.tmp 57)),
⟨none, none, false, .sto 1 (.tmp 61) (.tmp 60)⟩])) (.ops false [
oq 53 (.mov (.tmp 7)),
oq 54 (.bin .add (.tmp 53) (cq 1)),
oq 7 (.mov (.tmp 54))])))))) (.seq (.seq (.ops false [
oq 8 (.mov (cq 0))]) (.block 2 (.loop (.seq (.seq (.ops false [
oq 62 (.mov (.tmp 8)),
oq 63 (.fad 3 (.tmp 6)),
oq 64 (.ld1 (.tmp 63)),
oq 65 (.len .sl (.tmp 64)),
oq 66 (.bin .lss (.tmp 62) (.tmp 65))]) (.cond (.tmp 66) .skip (.exit 2))) (.seq (.block 3 (.ops false [
oq 69 (.fad 3 (.tmp 6)),
oq 70 (.ld1 (.tmp 69)),
oq 71 (.mov (.tmp 8)),
oq 72 (.ixs 1 (.tmp 70) (.tmp 71)),
oq 73 (.ld1 (.tmp 72)),
oq 74 (.bin .add (.tmp 73) (cq 1)),
oq 75 (.ixs 1 (.tmp 70) (.tmp 71)),
⟨none, none, false, .sto 1 (.tmp 75) (.tmp 74)⟩])) (.ops false [
oq 67 (.mov (.tmp 8)),
oq 68 (.bin .add (.tmp 67) (cq 1)),
oq 8 (.mov (.tmp 68))])))))) (.seq (.ops false [
oq 76 (.ldn 4 (.tmp 2)),
oq 77 (.ldn 4 (.tmp 5)),
oq 78 (.call (.func 12) [.tmp 76, .tmp 77]),
oq 79 (.mov (.tmp 78)),
gq 80 79 true (.call (.func 13) []),
oq 81 (.pick (.tmp 79) (.tmp 80) (.const (.bool false))),
oq 4 (.mov (.tmp 81))]) .ret))))))))) }
theorem t10 : tabP Try.prog 0 10 = some ic10 := by kernel_rfl
/-- bandplan/terrain.Flat -/
def ic11 : IFn := { ntmps := 40, results := [.agg 8 4, .tmp 9], code := (.seq (.ops false [
oq 8 (.new [.int .i64 0, .int .i64 0, .slice none 0 0, .slice none 0 0]),
oq 9 (.mov (cq 0))]) (.seq (.seq (.ops false [
oq 12 (.mov (.tmp 0)),
oq 13 (.call (.func 41) [cq 1, .tmp 12, .const (.int .i64 64)]),
oq 14 (.una .not (.tmp 13)),
oq 15 (.mov (.tmp 14)),
gq 16 15 false (.mov (.tmp 1)),
gq 17 15 false (.call (.func 41) [cq 1, .tmp 16, .const (.int .i64 64)]),
gq 18 15 false (.una .not (.tmp 17)),
oq 19 (.pick (.tmp 15) (.const (.bool true)) (.tmp 18))]) (.cond (.tmp 19) (.seq (.ops false [
oq 20 (.bld [.int .i64 0, .int .i64 0, .slice none 0 0, .slice none 0 0] []),
⟨none, none, false, .sto 4 (.tmp 8) (.tmp 20)⟩,
oq 9 (.mov (.const (.int .i64 2)))]) .ret) .skip)) (.seq (.ops false [
oq 21 (.mov (.tmp 0)),
oq 22 (.mov (.tmp 1)),
oq 23 (.bin .mul (.tmp 21) (.tmp 22)),
oq 10 (.mov (.tmp 23))]) (.seq (.ops false [
oq 24 (.mov (.tmp 0)),
oq 25 (.mov (.tmp 1)),
oq 26 (.mov (.tmp 2)),
oq 27 (.bsl 1 [.int .i64 0] [(0, 1, .tmp 26)]),
oq 28 (.mov (.tmp 10)),
oq 29 (.call (.func 42) [.tmp 27, .tmp 28]),
oq 30 (.mov (.tmp 3)),
oq 31 (.bsl 1 [.int .i64 0] [(0, 1, .tmp 30)]),
oq 32 (.mov (.tmp 10)),
oq 33 (.call (.func 42) [.tmp 31, .tmp 32]),
oq 34 (.bld [.int .i64 0, .int .i64 0, .slice none 0 0, .slice none 0 0] [(0, 1, .tmp 24), (1, 1, .tmp 25), (2, 1, .tmp 29), (3, 1, .tmp 33)]),
oq 11 (.new [.int .i64 0, .int .i64 0, .slice none 0 0, .slice none 0 0]),
⟨none, none, false, .sto 4 (.tmp 11) (.tmp 34)⟩]) (.seq (.seq (.ops false [
oq 35 (.ldn 4 (.tmp 11)),
oq 36 (.call (.func 15) [.tmp 35]),
oq 37 (.una .not (.tmp 36))]) (.cond (.tmp 37) (.seq (.ops false [
oq 38 (.bld [.int .i64 0, .int .i64 0, .slice none 0 0, .slice none 0 0] []),
⟨none, none, false, .sto 4 (.tmp 8) (.tmp 38)⟩,
oq 9 (.mov (.const (.int .i64 2)))]) .ret) .skip)) (.seq (.ops false [
oq 39 (.ldn 4 (.tmp 11)),
⟨none, none, false, .sto 4 (.tmp 8) (.tmp 39)⟩,
oq 9 (.mov (cq 0))]) .ret)))))) }
theorem t11 : tabP Try.prog 0 11 = some ic11 := by kernel_rfl
/-- bandplan/bandplanref10.Equal -/
def ic12 : IFn := { ntmps := 73, results := [.tmp 4], code := (.seq (.ops false [
oq 2 (.box 4 (.tmp 0)),
oq 3 (.box 4 (.tmp 1)),
oq 4 (.mov (.const (.bool false)))]) (.seq (.seq (.ops false [
oq 7 (.fad 0 (.tmp 2)),
oq 8 (.ld1 (.tmp 7)),
oq 9 (.fad 0 (.tmp 3)),
oq 10 (.ld1 (.tmp 9)),
oq 11 (.bin .neq (.tmp 8) (.tmp 10)),
oq 12 (.mov (.tmp 11)),
gq 13 12 false (.fad 1 (.tmp 2)),
gq 14 12 false (.ld1 (.tmp 13)),
gq 15 12 false (.fad 1 (.tmp 3)),
gq 16 12 false (.ld1 (.tmp 15)),
gq 17 12 false (.bin .neq (.tmp 14) (.tmp 16)),
oq 18 (.pick (.tmp 12) (.const (.bool true)) (.tmp 17)),
oq 19 (.mov (.tmp 18)),
gq 20 19 false (.fad 2 (.tmp 2)),
gq 21 19 false (.ld1 (.tmp 20)),
gq 22 19 false (.len .sl (.tmp 21)),
gq 23 19 false (.fad 2 (.tmp 3)),
gq 24 19 false (.ld1 (.tmp 23)),
gq 25 19 false (.len .sl (.tmp 24)),
gq 26 19 false (.bin .neq (.tmp 22) (.tmp 25)),
oq 27 (.pick (.tmp 19) (.const (.bool true)) (.tmp 26)),
oq 28 (.mov (.tmp 27)),
gq 29 28 false (.fad 3 (.tmp 2)),
gq 30 28 false (.ld1 (.tmp 29)),
gq 31 28 false (.len .sl (.tmp 30)),
gq 32 28 false (.fad 3 (.tmp 3)),
gq 33 28 false (.ld1 (.tmp 32)),
gq 34 28 false (.len .sl (.tmp 33)),
gq 35 28 false (.bin .neq (.tmp 31) (.tmp 34)),
oq 36 (.pick (.tmp 28) (.const (.bool true)) (.tmp 35))]) (.cond (.tmp 36) (.seq (.ops false [
oq 4 (.mov (.const (.bool false)))]) .ret) .skip)) (.seq (.seq (.ops false [
oq 5 (.mov (cq 0))]) (.block 0 (.loop (.seq (.seq (.ops false [
oq 37 (.mov (.tmp 5)),
oq 38 (.fad 2 (.tmp 2)),
oq 39 (.ld1 (.tmp 38)),
oq 40 (.len .sl (.tmp 39)),
oq 41 (.bin .lss (.tmp 37) (.tmp 40))]) (.cond (.tmp 41) .skip (.exit 0))) (.seq (.block 1 (.seq (.ops true [
oq 44 (.fad 2 (.tmp 2)),
oq 45 (.ld1 (.tmp 44)),
oq 46 (.mov (.tmp 5)),
oq 47 (.ixs 1 (.tmp 45) (.tmp 46)),
oq 48 (.ld1 (.tmp 47)),
oq 49 (.fad 2 (.tmp 3)),
oq 50 (.ld1 (.tmp 49)),
oq 51 (.mov (.tmp 5)),
oq 52 (.ixs 1 (.tmp 50) (.tmp 51)),
oq 53 (.ld1 (.tmp 52)),
oq 54 (.bin .neq (.tmp 48) (.tmp 53))]) (.cond (.tmp 54) (.seq (.ops false [
oq 4 (.mov (.const (.bool false)))]) .ret) .skip))) (.ops false [
oq 42 (.mov (.tmp 5)),
oq 43 (.bin .add (.tmp 42) (cq 1)),
oq 5 (.mov (.tmp 43))])))))) (.seq (.seq (.ops false [
oq 6 (.mov (cq 0))]) (.block 2 (.loop (.seq (.seq (.ops false [
oq 55 (.mov (.tmp 6)),
oq 56 (.fad 3 (.tmp 2)),
oq 57 (.ld1 (.tmp 56)),
oq 58 (.len .sl (.tmp 57)),
oq 59 (.bin .lss (.tmp 55) (.tmp 58))]) (.cond (.tmp 59) .skip (.exit 2))) (.seq (.block 3 (.seq (.ops true [
oq 62 (.fad 3 (.tmp 2)),
oq 63 (.ld1 (.tmp 62)),
oq 64 (.mov (.tmp 6)),
oq 65 (.ixs 1 (.tmp 63) (.tmp 64)),
oq 66 (.ld1 (.tmp 65)),
oq 67 (.fad 3 (.tmp 3)),
oq 68 (.ld1 (.tmp 67)),
oq 69 (.mov (.tmp 6)),
oq 70 (.ixs 1 (.tmp 68) (.tmp 69)),
oq 71 (.ld1 (.tmp 70)),
oq 72 (.bin .neq (.tmp 66) (.tmp 71))]) (.cond (.tmp 72) (.seq (.ops false [
oq 4 (.mov (.const (.bool false)))]) .ret) .skip))) (.ops false [
oq 60 (.mov (.tmp 6)),
oq 61 (.bin .add (.tmp 60) (cq 1)),
oq 6 (.mov (.tmp 61))])))))) (.seq (.ops false [
oq 4 (.mov (.const (.bool true)))]) .ret))))) }
theorem t12 : tabP Try.prog 0 12 = some ic12 := by kernel_rfl
/-- bandplan/bandplanlaw10.known -/
def ic13 : IFn := { ntmps := 163, results := [.tmp 0], code := (.seq (.ops false [
oq 0 (.mov (.const (.bool false)))]) (.seq (.ops false [
oq 24 (.call (.func 11) [.const (.int .i64 4), .const (.int .i64 3), .const (.int .i64 100), .const (.int .i64 7)]),
oq 23 (.mov (.tmp 24)),
oq 25 (.ext (.tmp 23) 0),
oq 26 (.ext (.tmp 23) 1),
oq 1 (.new [.int .i64 0, .int .i64 0, .slice none 0 0, .slice none 0 0]),
⟨none, none, false, .sto 4 (.tmp 1) (.tmp 25)⟩,
oq 2 (.mov (.tmp 26))]) (.seq (.ops false [
oq 28 (.bld [.int .i64 0, .int .i64 0] []),
oq 29 (.bld [.int .i64 0, .int .i64 0] [(0, 1, .const (.int .i64 4)), (1, 1, .const (.int .i64 2))]),
oq 30 (.call (.func 20) [.tmp 28, .tmp 29]),
oq 27 (.mov (.tmp 30)),
oq 31 (.ext (.tmp 27) 0),
oq 32 (.ext (.tmp 27) 1),
oq 3 (.mov (.tmp 31)),
oq 4 (.mov (.tmp 32))]) (.seq (.ops false [
oq 34 (.bld [.int .i64 0, .int .i64 0] []),
oq 35 (.bld [.int .i64 0, .int .i64 0] [(0, 1, .const (.int .i64 64))]),
oq 36 (.call (.func 20) [.tmp 34, .tmp 35]),
oq 33 (.mov (.tmp 36)),
oq 37 (.ext (.tmp 33) 0),
oq 38 (.ext (.tmp 33) 1),
oq 5 (.mov (.tmp 37)),
oq 6 (.mov (.tmp 38))]) (.seq (.seq (.ops true [
oq 39 (.mov (.tmp 2)),
oq 40 (.bin .neq (.tmp 39) (cq 0)),
oq 41 (.mov (.tmp 40)),
gq 42 41 false (.ldn 4 (.tmp 1)),
⟨some 43, some (41, false), true, .call (.func 14) [.const (.int .i64 4), .const (.int .i64 3), .const (.int .i64 100), .const (.int .i64 7)]⟩,
gq 44 41 false (.call (.func 12) [.tmp 42, .tmp 43]),
gq 45 41 false (.una .not (.tmp 44)),
oq 46 (.pick (.tmp 41) (.const (.bool true)) (.tmp 45)),
oq 47 (.mov (.tmp 46)),
gq 48 47 false (.mov (.tmp 4)),
gq 49 47 false (.bin .neq (.tmp 48) (cq 0)),
oq 50 (.pick (.tmp 47) (.const (.bool true)) (.tmp 49)),
oq 51 (.mov (.tmp 50)),
gq 52 51 false (.mov (.tmp 6)),
gq 53 51 false (.bin .neq (.tmp 52) (.const (.int .i64 2))),
oq 54 (.pick (.tmp 51) (.const (.bool true)) (.tmp 53)),
oq 55 (.mov (.tmp 54)),
gq 56 55 false (.mov (.tmp 3)),
gq 57 55 false (.bld [.int .i64 0, .int .i64 0] [(0, 1, cq 1), (1, 1, cq 1)]),
gq 58 55 false (.bld [.int .i64 0, .int .i64 0] [(0, 1, .const (.int .i64 2)), (1, 1, cq 1)]),
gq 59 55 false (.bld [.int .i64 0, .int .i64 0] [(0, 1, .const (.int .i64 3)), (1, 1, .const (.int .i64 2))]),
gq 60 55 false (.bsl 3 [.int .i64 0, .int .i64 0, .int .i64 0, .int .i64 0, .int .i64 0, .int .i64 0] [(0, 2, .tmp 57), (2, 2, .tmp 58), (4, 2, .tmp 59)]),
gq 61 55 false (.call (.func 21) [.tmp 56, .tmp 60]),
gq 62 55 false (.una .not (.tmp 61)),
oq 63 (.pick (.tmp 55) (.const (.bool true)) (.tmp 62))]) (.cond (.tmp 63) (.seq (.ops false [
oq 0 (.mov (.const (.bool false)))]) .ret) .skip)) (.seq (.ops false [
oq 65 (.ldn 4 (.tmp 1)),
oq 66 (.bld [.int .i64 0, .int .i64 0] [(0, 1, .const (.int .i64 3)), (1, 1, cq 1)]),
oq 67 (.call (.func 33) [.tmp 65, .tmp 66]),
oq 64 (.mov (.tmp 67)),
oq 68 (.ext (.tmp 64) 0),
oq 69 (.ext (.tmp 64) 1),
oq 7 (.mov (.tmp 68)),
oq 8 (.mov (.tmp 69))]) (.seq (.ops false [
oq 71 (.ldn 4 (.tmp 1)),
oq 72 (.call (.func 36) [.tmp 71, .const (.int .i64 7)]),
oq 70 (.mov (.tmp 72)),
oq 73 (.ext (.tmp 70) 0),
oq 74 (.ext (.tmp 70) 1),
oq 9 (.new [.int .i64 0, .int .i64 0]),
⟨none, none, false, .sto 2 (.tmp 9) (.tmp 73)⟩,
oq 10 (.mov (.tmp 74))]) (.seq (.ops false [
oq 76 (.ldn 4 (.tmp 1)),
oq 77 (.call (.func 36) [.tmp 76, .const (.int .i64 12)]),
oq 75 (.mov (.tmp 77)),
oq 78 (.ext (.tmp 75) 0),
oq 79 (.ext (.tmp 75) 1),
oq 11 (.new [.int .i64 0, .int .i64 0]),
⟨none, none, false, .sto 2 (.tmp 11) (.tmp 78)⟩,
oq 12 (.mov (.tmp 79))]) (.seq (.ops false [
oq 81 (.ldn 4 (.tmp 1)),
oq 82 (.bld [.int .i64 0, .int .i64 0] [(0, 1, .const (.int .i64 2)), (1, 1, cq 1)]),
oq 83 (.bld [.int .i64 0, .int .i64 0] [(0, 1, cq 1)]),
oq 84 (.call (.func 24) [.tmp 81, .tmp 82, .tmp 83]),
oq 80 (.mov (.tmp 84)),
oq 85 (.ext (.tmp 80) 0),
oq 86 (.ext (.tmp 80) 1),
oq 13 (.mov (.tmp 85)),
oq 14 (.mov (.tmp 86))]) (.seq (.ops false [
oq 88 (.ldn 4 (.tmp 1)),
oq 89 (.bsl 3 [.int .i64 0, .int .i64 0, .int .i64 0] [(0, 1, cq 0), (1, 1, .const (.int .i64 5)), (2, 1, cq 0)]),
oq 90 (.call (.func 28) [.tmp 88, .tmp 89]),
oq 87 (.mov (.tmp 90)),
oq 91 (.ext (.tmp 87) 0),
oq 92 (.ext (.tmp 87) 1),
oq 15 (.mov (.tmp 91)),
oq 16 (.mov (.tmp 92))]) (.seq (.ops false [
oq 94 (.ldn 4 (.tmp 1)),
oq 95 (.bld [.int .i64 0, .int .i64 0] []),
oq 96 (.bld [.int .i64 0, .int .i64 0] []),
oq 97 (.call (.func 23) [.tmp 94, .tmp 95, .tmp 96]),
oq 93 (.mov (.tmp 97)),
oq 98 (.ext (.tmp 93) 0),
oq 99 (.ext (.tmp 93) 1),
oq 17 (.mov (.tmp 98)),
oq 18 (.mov (.tmp 99))]) (.seq (.ops false [
oq 101 (.call (.func 11) [.const (.int .i64 65), cq 1, cq 0, cq 0]),
oq 100 (.mov (.tmp 101)),
oq 102 (.ext (.tmp 100) 0),
oq 103 (.ext (.tmp 100) 1),
oq 19 (.new [.int .i64 0, .int .i64 0, .slice none 0 0, .slice none 0 0]),
⟨none, none, false, .sto 4 (.tmp 19) (.tmp 102)⟩,
oq 20 (.mov (.tmp 103))]) (.seq (.ops false [
oq 105 (.ldn 4 (.tmp 1)),
oq 106 (.bld [.int .i64 0, .int .i64 0] []),
oq 107 (.call (.func 17) [.tmp 105, .tmp 106, .const (.int .i64 9001), cq 0]),
oq 104 (.mov (.tmp 107)),
oq 108 (.ext (.tmp 104) 0),
oq 109 (.ext (.tmp 104) 1),
oq 21 (.new [.int .i64 0, .int .i64 0, .slice none 0 0, .slice none 0 0]),
⟨none, none, false, .sto 4 (.tmp 21) (.tmp 108)⟩,
oq 22 (.mov (.tmp 109))]) (.seq (.ops false [
oq 110 (.mov (.tmp 7)),
oq 111 (.bin .eql (.tmp 110) (.const (.int .i64 7))),
oq 112 (.mov (.tmp 111)),
gq 113 112 true (.mov (.tmp 8)),
gq 114 112 true (.bin .eql (.tmp 113) (cq 0)),
oq 115 (.pick (.tmp 112) (.tmp 114) (.const (.bool false))),
oq 116 (.mov (.tmp 115)),
gq 117 116 true (.ldn 2 (.tmp 9)),
gq 118 116 true (.bld [.int .i64 0, .int .i64 0] [(0, 1, .const (.int .i64 3)), (1, 1, cq 1)]),
gq 119 116 true (.eq (.flat [.i, .i]) false (.tmp 117) (.tmp 118)),
oq 120 (.pick (.tmp 116) (.tmp 119) (.const (.bool false))),
oq 121 (.mov (.tmp 120)),
gq 122 121 true (.mov (.tmp 10)),
gq 123 121 true (.bin .eql (.tmp 122) (cq 0)),
oq 124 (.pick (.tmp 121) (.tmp 123) (.const (.bool false))),
oq 125 (.mov (.tmp 124)),
gq 126 125 true (.mov (.tmp 12)),
gq 127 125 true (.bin .eql (.tmp 126) (.const (.int .i64 2))),
oq 128 (.pick (.tmp 125) (.tmp 127) (.const (.bool false))),
oq 129 (.mov (.tmp 128)),
gq 130 129 true (.mov (.tmp 13)),
gq 131 129 true (.bsl 4 [.int .i64 0, .int .i64 0, .int .i64 0, .int .i64 0] [(0, 1, cq 1), (1, 1, .const (.int .i64 2)), (2, 1, .const (.int .i64 5)), (3, 1, .const (.int .i64 6))]),
gq 132 129 true (.call (.func 25) [.tmp 130, .tmp 131]),
oq 133 (.pick (.tmp 129) (.tmp 132) (.const (.bool false))),
oq 134 (.mov (.tmp 133)),
gq 135 134 true (.mov (.tmp 14)),
gq 136 134 true (.bin .eql (.tmp 135) (cq 0)),
oq 137 (.pick (.tmp 134) (.tmp 136) (.const (.bool false))),
oq 138 (.mov (.tmp 137)),
gq 139 138 true (.mov (.tmp 15)),
gq 140 138 true (.bin .eql (.tmp 139) (.const (.int .i64 14))),
oq 141 (.pick (.tmp 138) (.tmp 140) (.const (.bool false))),
oq 142 (.mov (.tmp 141)),
gq 143 142 true (.mov (.tmp 16)),
gq 144 142 true (.bin .eql (.tmp 143) (cq 0)),
oq 145 (.pick (.tmp 142) (.tmp 144) (.const (.bool false))),
oq 146 (.mov (.tmp 145)),
gq 147 146 true (.mov (.tmp 17)),
gq 148 146 true (.bsl 1 [.int .i64 0] [(0, 1, .const (.int .i64 100))]),
gq 149 146 true (.call (.func 25) [.tmp 147, .tmp 148]),
oq 150 (.pick (.tmp 146) (.tmp 149) (.const (.bool false))),
oq 151 (.mov (.tmp 150)),
gq 152 151 true (.mov (.tmp 18)),
gq 153 151 true (.bin .eql (.tmp 152) (cq 0)),
oq 154 (.pick (.tmp 151) (.tmp 153) (.const (.bool false))),
oq 155 (.mov (.tmp 154)),
gq 156 155 true (.mov (.tmp 20)),
gq 157 155 true (.bin .eql (.tmp 156) (.const (.int .i64 2))),
oq 158 (.pick (.tmp 155) (.tmp 157) (.const (.bool false))),
oq 159 (.mov (.tmp 158)),
gq 160 159 true (.mov (.tmp 22)),
gq 161 159 true (.bin .eql (.tmp 160) (.const (.int .i64 2))),
oq 162 (.pick (.tmp 159) (.tmp 161) (.const (.bool false))),
oq 0 (.mov (.tmp 162))]) .ret)))))))))))))) }
theorem t13 : tabP Try.prog 0 13 = some ic13 := by kernel_rfl
/-- bandplan/bandplanref10.Flat -/
def ic14 : IFn := { ntmps := 34, results := [.agg 8 4], code := (.seq (.ops false [
oq 8 (.new [.int .i64 0, .int .i64 0, .slice none 0 0, .slice none 0 0])]) (.seq (.ops false [
oq 11 (.mov (.tmp 0)),
oq 12 (.mov (.tmp 1)),
oq 13 (.bld [.int .i64 0, .int .i64 0, .slice none 0 0, .slice none 0 0] [(0, 1, .tmp 11), (1, 1, .tmp 12)]),
oq 9 (.new [.int .i64 0, .int .i64 0, .slice none 0 0, .slice none 0 0]),
⟨none, none, false, .sto 4 (.tmp 9) (.tmp 13)⟩]) (.seq (.seq (.ops false [
oq 10 (.mov (cq 0))]) (.block 0 (.loop (.seq (.seq (.ops false [
oq 14 (.mov (.tmp 10)),
oq 15 (.mov (.tmp 0)),
oq 16 (.mov (.tmp 1)),
oq 17 (.bin .mul (.tmp 15) (.tmp 16)),
oq 18 (.bin .lss (.tmp 14) (.tmp 17))]) (.cond (.tmp 18) .skip (.exit 0))) (.seq (.block 1 (.seq (.ops false [
oq 21 (.fad 2 (.tmp 9)),
oq 22 (.ld1 (.tmp 21)),
oq 23 (.mov (.tmp 2)),
oq 24 (.bsl 1 [.int .i64 0] [(0, 1, .tmp 23)]),
oq 25 (.app 1 8 (.tmp 22) (.tmp 24)),
oq 26 (.fad 2 (.tmp 9)),
⟨none, none, false, .sto 1 (.tmp 26) (.tmp 25)⟩]) (.ops false [
oq 27 (.fad 3 (.tmp 9)),
oq 28 (.ld1 (.tmp 27)),
oq 29 (.mov (.tmp 3)),
oq 30 (.bsl 1 [.int .i64 0] [(0, 1, .tmp 29)]),
oq 31 (.app 1 8 (.tmp 28) (.tmp 30)),
oq 32 (.fad 3 (.tmp 9)),
⟨none, none, false, .sto 1 (.tmp 32) (.tmp 31)⟩]))) (.ops false [
oq 19 (.mov (.tmp 10)),
oq 20 (.bin .add (.tmp 19) (cq 1)),
oq 10 (.mov (.tmp 20))])))))) (.seq (.ops false [
oq 33 (.ldn 4 (.tmp 9)),
⟨none, none, false, .sto 4 (.tmp 8) (.tmp 33)⟩]) .ret)))) }
theorem t14 : tabP Try.prog 0 14 = some ic14 := by kernel_rfl
/-- bandplan/terrain.Valid -/
def ic15 : IFn := { ntmps := 41, results := [.tmp 2], code := (.seq (.ops false [
oq 1 (.box 4 (.tmp 0)),
oq 2 (.mov (.const (.bool false)))]) (.seq (.seq (.ops false [
oq 4 (.fad 0 (.tmp 1)),
oq 5 (.ld1 (.tmp 4)),
oq 6 (.call (.func 41) [cq 1, .tmp 5, .const (.int .i64 64)]),
oq 7 (.una .not (.tmp 6)),
oq 8 (.mov (.tmp 7)),
gq 9 8 false (.fad 1 (.tmp 1)),
gq 10 8 false (.ld1 (.tmp 9)),
gq 11 8 false (.call (.func 41) [cq 1, .tmp 10, .const (.int .i64 64)]),
gq 12 8 false (.una .not (.tmp 11)),
oq 13 (.pick (.tmp 8) (.const (.bool true)) (.tmp 12))]) (.cond (.tmp 13) (.seq (.ops false [
oq 2 (.mov (.const (.bool false)))]) .ret) .skip)) (.seq (.ops false [
oq 14 (.fad 0 (.tmp 1)),
oq 15 (.ld1 (.tmp 14)),
oq 16 (.fad 1 (.tmp 1)),
oq 17 (.ld1 (.tmp 16)),
oq 18 (.bin .mul (.tmp 15) (.tmp 17)),
oq 3 (.mov (.tmp 18))]) (.seq (.ops false [
oq 19 (.fad 2 (.tmp 1)),
oq 20 (.ld1 (.tmp 19)),
oq 21 (.len .sl (.tmp 20)),
oq 22 (.mov (.tmp 3)),
oq 23 (.bin .eql (.tmp 21) (.tmp 22)),
oq 24 (.mov (.tmp 23)),
gq 25 24 true (.fad 3 (.tmp 1)),
gq 26 24 true (.ld1 (.tmp 25)),
gq 27 24 true (.len .sl (.tmp 26)),
gq 28 24 true (.mov (.tmp 3)),
gq 29 24 true (.bin .eql (.tmp 27) (.tmp 28)),
oq 30 (.pick (.tmp 24) (.tmp 29) (.const (.bool false))),
oq 31 (.mov (.tmp 30)),
gq 32 31 true (.fad 2 (.tmp 1)),
gq 33 31 true (.ld1 (.tmp 32)),
gq 34 31 true (.call (.func 43) [cq 0, .tmp 33, .const (.int .i64 9000)]),
oq 35 (.pick (.tmp 31) (.tmp 34) (.const (.bool false))),
oq 36 (.mov (.tmp 35)),
gq 37 36 true (.fad 3 (.tmp 1)),
gq 38 36 true (.ld1 (.tmp 37)),
gq 39 36 true (.call (.func 43) [cq 0, .tmp 38, .const (.int .i64 1000000)]),
oq 40 (.pick (.tmp 36) (.tmp 39) (.const (.bool false))),
oq 2 (.mov (.tmp 40))]) .ret)))) }
theorem t15 : tabP Try.prog 0 15 = some ic15 := by kernel_rfl
/-- bandplan/bandplanlaw10.big -/
def ic16 : IFn := { ntmps := 13, results := [.tmp 2], code := (.seq (.ops false [
oq 1 (.box 4 (.tmp 0)),
oq 2 (.mov (.const (.bool false)))]) (.seq (.ops false [
oq 3 (.fad 2 (.tmp 1)),
oq 4 (.ld1 (.tmp 3)),
oq 5 (.len .sl (.tmp 4)),
oq 6 (.bin .gtr (.tmp 5) (.const (.int .i64 300))),
oq 7 (.mov (.tmp 6)),
gq 8 7 false (.fad 3 (.tmp 1)),
gq 9 7 false (.ld1 (.tmp 8)),
gq 10 7 false (.len .sl (.tmp 9)),
gq 11 7 false (.bin .gtr (.tmp 10) (.const (.int .i64 300))),
oq 12 (.pick (.tmp 7) (.const (.bool true)) (.tmp 11)),
oq 2 (.mov (.tmp 12))]) .ret)) }
theorem t16 : tabP Try.prog 0 16 = some ic16 := by kernel_rfl
/-- bandplan/terrain.Set -/
def ic17 : IFn := { ntmps := 43, results := [.agg 8 4, .tmp 9], code := (.seq (.ops false [
oq 4 (.box 4 (.tmp 0)),
oq 5 (.box 2 (.tmp 1)),
oq 8 (.new [.int .i64 0, .int .i64 0, .slice none 0 0, .slice none 0 0]),
oq 9 (.mov (cq 0))]) (.seq (.seq (.ops false [
oq 11 (.ldn 4 (.tmp 4)),
oq 12 (.ldn 2 (.tmp 5)),
oq 13 (.call (.func 32) [.tmp 11, .tmp 12]),
oq 14 (.una .not (.tmp 13)),
oq 15 (.mov (.tmp 14)),
gq 16 15 false (.mov (.tmp 2)),
gq 17 15 false (.call (.func 41) [cq 0, .tmp 16, .const (.int .i64 9000)]),
gq 18 15 false (.una .not (.tmp 17)),
oq 19 (.pick (.tmp 15) (.const (.bool true)) (.tmp 18)),
oq 20 (.mov (.tmp 19)),
gq 21 20 false (.mov (.tmp 3)),
gq 22 20 false (.call (.func 41) [cq 0, .tmp 21, .const (.int .i64 1000000)]),
gq 23 20 false (.una .not (.tmp 22)),
oq 24 (.pick (.tmp 20) (.const (.bool true)) (.tmp 23))]) (.cond (.tmp 24) (.seq (.ops false [
oq 25 (.bld [.int .i64 0, .int .i64 0, .slice none 0 0, .slice none 0 0] []),
⟨none, none, false, .sto 4 (.tmp 8) (.tmp 25)⟩,
oq 9 (.mov (.const (.int .i64 2)))]) .ret) .skip)) (.seq (.ops false [
oq 26 (.ldn 4 (.tmp 4)),
oq 27 (.call (.func 40) [.tmp 26]),
oq 10 (.new [.int .i64 0, .int .i64 0, .slice none 0 0, .slice none 0 0]),
⟨none, none, false, .sto 4 (.tmp 10) (.tmp 27)⟩]) (.seq (.ops true [
oq 28 (.fad 2 (.tmp 10)),
oq 29 (.ld1 (.tmp 28)),
oq 30 (.ldn 4 (.tmp 4)),
oq 31 (.ldn 2 (.tmp 5)),
⟨some 32, none, true, .call (.func 44) [.tmp 30, .tmp 31]⟩,
oq 33 (.fad 3 (.tmp 10)),
oq 34 (.ld1 (.tmp 33)),
oq 35 (.ldn 4 (.tmp 4)),
oq 36 (.ldn 2 (.tmp 5)),
⟨some 37, none, true, .call (.func 44) [.tmp 35, .tmp 36]⟩,
oq 38 (.mov (.tmp 2)),
oq 39 (.mov (.tmp 3)),
oq 40 (.ixs 1 (.tmp 29) (.tmp 32)),
⟨none, none, false, .stk 1 (.tmp 40) (.tmp 38) [(1, .tmp 33)]⟩,
oq 41 (.ixs 1 (.tmp 34) (.tmp 37)),
⟨none, none, false, .sto 1 (.tmp 41) (.tmp 39)⟩]) (.seq (.ops false [
oq 42 (.ldn 4 (.tmp 10)),
⟨none, none, false, .sto 4 (.tmp 8) (.tmp 42)⟩,
oq 9 (.mov (cq 0))]) .ret))))) }
theorem t17 : tabP Try.prog 0 17 = some ic17 := by kernel_rfl
/-- bandplan/bandplanref10.Has -/
def ic18 : IFn := { ntmps := 31, results := [.tmp 4], code := (.seq (.ops false [
oq 2 (.box 4 (.tmp 0)),
oq 3 (.box 2 (.tmp 1)),
oq 4 (.mov (.const (.bool false)))]) (.seq (.ops false [
oq 5 (.ldn 4 (.tmp 2)),
oq 6 (.call (.func 29) [.tmp 5]),
oq 7 (.mov (.tmp 6)),
gq 8 7 true (.fad 0 (.tmp 3)),
gq 9 7 true (.ld1 (.tmp 8)),
gq 10 7 true (.bin .geq (.tmp 9) (cq 0)),
oq 11 (.pick (.tmp 7) (.tmp 10) (.const (.bool false))),
oq 12 (.mov (.tmp 11)),
gq 13 12 true (.fad 0 (.tmp 3)),
gq 14 12 true (.ld1 (.tmp 13)),
gq 15 12 true (.fad 0 (.tmp 2)),
gq 16 12 true (.ld1 (.tmp 15)),
gq 17 12 true (.bin .lss (.tmp 14) (.tmp 16)),
oq 18 (.pick (.tmp 12) (.tmp 17) (.const (.bool false))),
oq 19 (.mov (.tmp 18)),
gq 20 19 true (.fad 1 (.tmp 3)),
gq 21 19 true (.ld1 (.tmp 20)),
gq 22 19 true (.bin .geq (.tmp 21) (cq 0)),
oq 23 (.pick (.tmp 19) (.tmp 22) (.const (.bool false))),
oq 24 (.mov (.tmp 23)),
gq 25 24 true (.fad 1 (.tmp 3)),
gq 26 24 true (.ld1 (.tmp 25)),
gq 27 24 true (.fad 1 (.tmp 2)),
gq 28 24 true (.ld1 (.tmp 27)),
gq 29 24 true (.bin .lss (.tmp 26) (.tmp 28)),
oq 30 (.pick (.tmp 24) (.tmp 29) (.const (.bool false))),
oq 4 (.mov (.tmp 30))]) .ret)) }
theorem t18 : tabP Try.prog 0 18 = some ic18 := by kernel_rfl
/-- bandplan/bandplanref10.Set -/
def ic19 : IFn := { ntmps := 38, results := [.agg 8 4], code := (.seq (.ops false [
oq 4 (.box 4 (.tmp 0)),
oq 5 (.box 2 (.tmp 1)),
oq 8 (.new [.int .i64 0, .int .i64 0, .slice none 0 0, .slice none 0 0])]) (.seq (.ops true [
oq 10 (.fad 0 (.tmp 4)),
oq 11 (.ld1 (.tmp 10)),
oq 12 (.fad 1 (.tmp 4)),
oq 13 (.ld1 (.tmp 12)),
oq 14 (.bsl 0 [] []),
oq 15 (.fad 2 (.tmp 4)),
oq 16 (.ld1 (.tmp 15)),
⟨some 17, none, true, .app 1 8 (.tmp 14) (.tmp 16)⟩,
oq 18 (.bsl 0 [] []),
oq 19 (.fad 3 (.tmp 4)),
oq 20 (.ld1 (.tmp 19)),
⟨some 21, none, true, .app 1 8 (.tmp 18) (.tmp 20)⟩,
oq 22 (.bld [.int .i64 0, .int .i64 0, .slice none 0 0, .slice none 0 0] [(0, 1, .tmp 11), (1, 1, .tmp 13), (2, 1, .tmp 17), (3, 1, .tmp 21)]),
oq 9 (.new [.int .i64 0, .int .i64 0, .slice none 0 0, .slice none 0 0]),
⟨none, none, false, .sto 4 (.tmp 9) (.tmp 22)⟩]) (.seq (.ops true [
oq 23 (.fad 2 (.tmp 9)),
oq 24 (.ld1 (.tmp 23)),
oq 25 (.ldn 4 (.tmp 4)),
oq 26 (.ldn 2 (.tmp 5)),
⟨some 27, none, true, .call (.func 37) [.tmp 25, .tmp 26]⟩,
oq 28 (.mov (.tmp 2)),
oq 29 (.ixs 1 (.tmp 24) (.tmp 27)),
⟨none, none, false, .sto 1 (.tmp 29) (.tmp 28)⟩]) (.seq (.ops true [
oq 30 (.fad 3 (.tmp 9)),
oq 31 (.ld1 (.tmp 30)),
oq 32 (.ldn 4 (.tmp 4)),
oq 33 (.ldn 2 (.tmp 5)),
⟨some 34, none, true, .call (.func 37) [.tmp 32, .tmp 33]⟩,
oq 35 (.mov (.tmp 3)),
oq 36 (.ixs 1 (.tmp 31) (.tmp 34)),
⟨none, none, false, .sto 1 (.tmp 36) (.tmp 35)⟩]) (.seq (.ops false [
oq 37 (.ldn 4 (.tmp 9)),
⟨none, none, false, .sto 4 (.tmp 8) (.tmp 37)⟩]) .ret))))) }
theorem t19 : tabP Try.prog 0 19 = some ic19 := by kernel_rfl
/-- bandplan/terrain.Line -/
def ic20 : IFn := { ntmps := 59, results := [.tmp 4, .tmp 5], code := (.seq (.ops false [
oq 2 (.box 2 (.tmp 0)),
oq 3 (.box 2 (.tmp 1)),
oq 4 (.mov (.const (Value.slice none 0 0))),
oq 5 (.mov (cq 0))]) (.seq (.seq (.ops false [
oq 11 (.fad 0 (.tmp 2)),
oq 12 (.ld1 (.tmp 11)),
oq 13 (.fad 1 (.tmp 2)),
oq 14 (.ld1 (.tmp 13)),
oq 15 (.fad 0 (.tmp 3)),
oq 16 (.ld1 (.tmp 15)),
oq 17 (.fad 1 (.tmp 3)),
oq 18 (.ld1 (.tmp 17)),
oq 19 (.bsl 4 [.int .i64 0, .int .i64 0, .int .i64 0, .int .i64 0] [(0, 1, .tmp 12), (1, 1, .tmp 14), (2, 1, .tmp 16), (3, 1, .tmp 18)]),
oq 20 (.call (.func 43) [cq 0, .tmp 19, .const (.int .i64 63)]),
oq 21 (.una .not (.tmp 20))]) (.cond (.tmp 21) (.seq (.ops false [
oq 4 (.mov (.const (Value.slice none 0 0))),
oq 5 (.mov (.const (.int .i64 2)))]) .ret) .skip)) (.seq (.ops true [
oq 22 (.fad 0 (.tmp 3)),
oq 23 (.ld1 (.tmp 22)),
oq 24 (.fad 0 (.tmp 2)),
oq 25 (.ld1 (.tmp 24)),
oq 26 (.bin .sub (.tmp 23) (.tmp 25)),
oq 27 (.fad 1 (.tmp 3)),
oq 28 (.ld1 (.tmp 27)),
oq 29 (.fad 1 (.tmp 2)),
oq 30 (.ld1 (.tmp 29)),
oq 31 (.bin .sub (.tmp 28) (.tmp 30)),
oq 6 (.mov (.tmp 26)),
oq 7 (.mov (.tmp 31))]) (.seq (.ops false [
oq 32 (.mov (.tmp 6)),
oq 33 (.call (.func 45) [.tmp 32]),
oq 34 (.mov (.tmp 7)),
oq 35 (.call (.func 45) [.tmp 34]),
oq 36 (.mnx true [.tmp 33, .tmp 35]),
oq 8 (.mov (.tmp 36))]) (.seq (.ops false [
oq 9 (.mov (.const (Value.slice none 0 0)))]) (.seq (.seq (.ops false [
oq 10 (.mov (cq 1))]) (.block 0 (.loop (.seq (.seq (.ops false [
oq 37 (.mov (.tmp 10)),
oq 38 (.mov (.tmp 8)),
oq 39 (.bin .lss (.tmp 37) (.tmp 38))]) (.cond (.tmp 39) .skip (.exit 0))) (.seq (.block 1 (.ops true [
oq 42 (.mov (.tmp 9)),
oq 43 (.fad 0 (.tmp 2)),
oq 44 (.ld1 (.tmp 43)),
oq 45 (.mov (.tmp 10)),
oq 46 (.mov (.tmp 6)),
oq 47 (.mov (.tmp 8)),
⟨some 48, none, true, .call (.func 46) [.tmp 44, .tmp 45, .tmp 46, .tmp 47]⟩,
oq 49 (.fad 1 (.tmp 2)),
oq 50 (.ld1 (.tmp 49)),
oq 51 (.mov (.tmp 10)),
oq 52 (.mov (.tmp 7)),
oq 53 (.mov (.tmp 8)),
oq 54 (.call (.func 46) [.tmp 50, .tmp 51, .tmp 52, .tmp 53]),
oq 55 (.bld [.int .i64 0, .int .i64 0] [(0, 1, .tmp 48), (1, 1, .tmp 54)]),
oq 56 (.bsl 1 [.int .i64 0, .int .i64 0] [(0, 2, .tmp 55)]),
oq 57 (.app 2 16 (.tmp 42) (.tmp 56)),
oq 9 (.mov (.tmp 57))])) (.ops false [
oq 40 (.mov (.tmp 10)),
oq 41 (.bin .add (.tmp 40) (cq 1)),
oq 10 (.mov (.tmp 41))])))))) (.seq (.ops false [
oq 58 (.mov (.tmp 9)),
oq 4 (.mov (.tmp 58)),
oq 5 (.mov (cq 0))]) .ret))))))) }
theorem t20 : tabP Try.prog 0 20 = some ic20 := by kernel_rfl
/-- bandplan/bandplanlaw10.same -/
def ic21 : IFn := { ntmps := 26, results := [.tmp 4], code := (.seq (.ops false [
oq 4 (.mov (.const (.bool false)))]) (.seq (.seq (.ops false [
oq 6 (.mov (.tmp 0)),
oq 7 (.len .sl (.tmp 6)),
oq 8 (.mov (.tmp 1)),
oq 9 (.len .sl (.tmp 8)),
oq 10 (.bin .neq (.tmp 7) (.tmp 9))]) (.cond (.tmp 10) (.seq (.ops false [
oq 4 (.mov (.const (.bool false)))]) .ret) .skip)) (.seq (.seq (.ops false [
oq 5 (.mov (cq 0))]) (.block 0 (.loop (.seq (.seq (.ops false [
oq 11 (.mov (.tmp 5)),
oq 12 (.mov (.tmp 0)),
oq 13 (.len .sl (.tmp 12)),
oq 14 (.bin .lss (.tmp 11) (.tmp 13))]) (.cond (.tmp 14) .skip (.exit 0))) (.seq (.block 1 (.seq (.ops true [
oq 17 (.mov (.tmp 0)),
oq 18 (.mov (.tmp 5)),
oq 19 (.ixs 2 (.tmp 17) (.tmp 18)),
oq 20 (.ldn 2 (.tmp 19)),
oq 21 (.mov (.tmp 1)),
oq 22 (.mov (.tmp 5)),
oq 23 (.ixs 2 (.tmp 21) (.tmp 22)),
oq 24 (.ldn 2 (.tmp 23)),
oq 25 (.eq (.flat [.i, .i]) true (.tmp 20) (.tmp 24))]) (.cond (.tmp 25) (.seq (.ops false [
oq 4 (.mov (.const (.bool false)))]) .ret) .skip))) (.ops false [
oq 15 (.mov (.tmp 5)),
oq 16 (.bin .add (.tmp 15) (cq 1)),
oq 5 (.mov (.tmp 16))])))))) (.seq (.ops false [
oq 4 (.mov (.const (.bool true)))]) .ret)))) }
theorem t21 : tabP Try.prog 0 21 = some ic21 := by kernel_rfl
/-- bandplan/bandplanref10.Line -/
def ic22 : IFn := { ntmps := 53, results := [.tmp 4], code := (.seq (.ops false [
oq 2 (.box 2 (.tmp 0)),
oq 3 (.box 2 (.tmp 1)),
oq 4 (.mov (.const (Value.slice none 0 0)))]) (.seq (.ops false [
oq 5 (.mov (.const (Value.slice none 0 0)))]) (.seq (.ops false [
oq 8 (.ldn 2 (.tmp 2)),
oq 9 (.ldn 2 (.tmp 3)),
oq 10 (.call (.func 47) [.tmp 8, .tmp 9]),
oq 6 (.mov (.tmp 10))]) (.seq (.seq (.ops false [
oq 7 (.mov (cq 1))]) (.block 0 (.loop (.seq (.seq (.ops false [
oq 11 (.mov (.tmp 7)),
oq 12 (.mov (.tmp 6)),
oq 13 (.bin .lss (.tmp 11) (.tmp 12))]) (.cond (.tmp 13) .skip (.exit 0))) (.seq (.block 1 (.ops true [
oq 16 (.mov (.tmp 5)),
oq 17 (.fad 0 (.tmp 2)),
oq 18 (.ld1 (.tmp 17)),
oq 19 (.mov (.tmp 7)),
oq 20 (.bin .mul (.const (.int .i64 2)) (.tmp 19)),
oq 21 (.fad 0 (.tmp 3)),
oq 22 (.ld1 (.tmp 21)),
oq 23 (.fad 0 (.tmp 2)),
oq 24 (.ld1 (.tmp 23)),
oq 25 (.bin .sub (.tmp 22) (.tmp 24)),
oq 26 (.bin .mul (.tmp 20) (.tmp 25)),
oq 27 (.mov (.tmp 6)),
oq 28 (.bin .add (.tmp 26) (.tmp 27)),
oq 29 (.mov (.tmp 6)),
oq 30 (.bin .mul (.const (.int .i64 2)) (.tmp 29)),
⟨some 31, none, true, .call (.func 48) [.tmp 28, .tmp 30]⟩,
oq 32 (.bin .add (.tmp 18) (.tmp 31)),
oq 33 (.fad 1 (.tmp 2)),
oq 34 (.ld1 (.tmp 33)),
oq 35 (.mov (.tmp 7)),
oq 36 (.bin .mul (.const (.int .i64 2)) (.tmp 35)),
oq 37 (.fad 1 (.tmp 3)),
oq 38 (.ld1 (.tmp 37)),
oq 39 (.fad 1 (.tmp 2)),
oq 40 (.ld1 (.tmp 39)),
oq 41 (.bin .sub (.tmp 38) (.tmp 40)),
oq 42 (.bin .mul (.tmp 36) (.tmp 41)),
oq 43 (.mov (.tmp 6)),
oq 44 (.bin .add (.tmp 42) (.tmp 43)),
oq 45 (.mov (.tmp 6)),
oq 46 (.bin .mul (.const (.int .i64 2)) (.tmp 45)),
⟨some 47, none, true, .call (.func 48) [.tmp 44, .tmp 46]⟩,
oq 48 (.bin .add (.tmp 34) (.tmp 47)),
oq 49 (.bld [.int .i64 0, .int .i64 0] [(0, 1, .tmp 32), (1, 1, .tmp 48)]),
oq 50 (.bsl 1 [.int .i64 0, .int .i64 0] [(0, 2, .tmp 49)]),
oq 51 (.app 2 16 (.tmp 16) (.tmp 50)),
oq 5 (.mov (.tmp 51))])) (.ops false [
oq 14 (.mov (.tmp 7)),
oq 15 (.bin .add (.tmp 14) (cq 1)),
oq 7 (.mov (.tmp 15))])))))) (.seq (.ops false [
oq 52 (.mov (.tmp 5)),
oq 4 (.mov (.tmp 52))]) .ret))))) }
theorem t22 : tabP Try.prog 0 22 = some ic22 := by kernel_rfl
/-- bandplan/terrain.Profile -/
def ic23 : IFn := { ntmps := 62, results := [.tmp 6, .tmp 7], code := (.seq (.ops false [
oq 3 (.box 4 (.tmp 0)),
oq 4 (.box 2 (.tmp 1)),
oq 5 (.box 2 (.tmp 2)),
oq 6 (.mov (.const (Value.slice none 0 0))),
oq 7 (.mov (cq 0))]) (.seq (.seq (.ops false [
oq 14 (.ldn 4 (.tmp 3)),
oq 15 (.ldn 2 (.tmp 4)),
oq 16 (.call (.func 32) [.tmp 14, .tmp 15]),
oq 17 (.una .not (.tmp 16)),
oq 18 (.mov (.tmp 17)),
gq 19 18 false (.ldn 4 (.tmp 3)),
gq 20 18 false (.ldn 2 (.tmp 5)),
gq 21 18 false (.call (.func 32) [.tmp 19, .tmp 20]),
gq 22 18 false (.una .not (.tmp 21)),
oq 23 (.pick (.tmp 18) (.const (.bool true)) (.tmp 22))]) (.cond (.tmp 23) (.seq (.ops false [
oq 6 (.mov (.const (Value.slice none 0 0))),
oq 7 (.mov (.const (.int .i64 2)))]) .ret) .skip)) (.seq (.ops false [
oq 25 (.ldn 2 (.tmp 4)),
oq 26 (.ldn 2 (.tmp 5)),
oq 27 (.call (.func 20) [.tmp 25, .tmp 26]),
oq 24 (.mov (.tmp 27)),
oq 28 (.ext (.tmp 24) 0),
oq 29 (.ext (.tmp 24) 1),
oq 8 (.mov (.tmp 28)),
oq 9 (.mov (.tmp 29))]) (.seq (.ops false [
oq 30 (.ldn 2 (.tmp 4)),
oq 31 (.bsl 1 [.int .i64 0, .int .i64 0] [(0, 2, .tmp 30)]),
oq 32 (.mov (.tmp 8)),
oq 33 (.app 2 16 (.tmp 31) (.tmp 32)),
oq 10 (.mov (.tmp 33))]) (.seq (.seq (.ops false [
oq 34 (.ldn 2 (.tmp 4)),
oq 35 (.ldn 2 (.tmp 5)),
oq 36 (.eq (.flat [.i, .i]) true (.tmp 34) (.tmp 35))]) (.cond (.tmp 36) (.ops false [
oq 37 (.mov (.tmp 10)),
oq 38 (.ldn 2 (.tmp 5)),
oq 39 (.bsl 1 [.int .i64 0, .int .i64 0] [(0, 2, .tmp 38)]),
oq 40 (.app 2 16 (.tmp 37) (.tmp 39)),
oq 10 (.mov (.tmp 40))]) .skip)) (.seq (.ops false [
oq 41 (.mov (.tmp 10)),
oq 42 (.len .sl (.tmp 41)),
oq 43 (.mks 1 8 [.int .i64 0] (cq 0) (.tmp 42)),
oq 11 (.mov (.tmp 43))]) (.seq (.seq (.ops false [
oq 44 (.mov (.tmp 10)),
oq 45 (.len .sl (.tmp 44)),
oq 46 (.mov (cq 0))]) (.block 0 (.loop (.seq (.ops false [
oq 47 (.bin .lss (.tmp 46) (.tmp 45))]) (.seq (.cond (.tmp 47) .skip (.exit 0)) (.seq (.block 1 (.seq (.ops false [
oq 48 (.ixs 2 (.tmp 44) (.tmp 46)),
oq 49 (.ldn 2 (.tmp 48)),
oq 13 (.new [.int .i64 0, .int .i64 0]),
⟨none, none, false, .sto 2 (.tmp 13) (.tmp 49)⟩]) (.ops true [
oq 50 (.mov (.tmp 11)),
oq 51 (.fad 2 (.tmp 3)),
oq 52 (.ld1 (.tmp 51)),
oq 53 (.ldn 4 (.tmp 3)),
oq 54 (.ldn 2 (.tmp 13)),
⟨some 55, none, true, .call (.func 44) [.tmp 53, .tmp 54]⟩,
oq 56 (.ixs 1 (.tmp 52) (.tmp 55)),
oq 57 (.ld1 (.tmp 56)),
oq 58 (.bsl 1 [.int .i64 0] [(0, 1, .tmp 57)]),
oq 59 (.app 1 8 (.tmp 50) (.tmp 58)),
oq 11 (.mov (.tmp 59))]))) (.ops false [
oq 60 (.bin .add (.tmp 46) (cq 1)),
oq 46 (.mov (.tmp 60))]))))))) (.seq (.ops false [
oq 61 (.mov (.tmp 11)),
oq 6 (.mov (.tmp 61)),
oq 7 (.mov (cq 0))]) .ret)))))))) }
theorem t23 : tabP Try.prog 0 23 = some ic23 := by kernel_rfl
/-- bandplan/terrain.Rect -/
def ic24 : IFn := { ntmps := 58, results := [.tmp 6, .tmp 7], code := (.seq (.ops false [
oq 3 (.box 4 (.tmp 0)),
oq 4 (.box 2 (.tmp 1)),
oq 5 (.box 2 (.tmp 2)),
oq 6 (.mov (.const (Value.slice none 0 0))),
oq 7 (.mov (cq 0))]) (.seq (.seq (.ops false [
oq 11 (.ldn 4 (.tmp 3)),
oq 12 (.ldn 2 (.tmp 4)),
oq 13 (.call (.func 32) [.tmp 11, .tmp 12]),
oq 14 (.una .not (.tmp 13)),
oq 15 (.mov (.tmp 14)),
gq 16 15 false (.ldn 4 (.tmp 3)),
gq 17 15 false (.ldn 2 (.tmp 5)),
gq 18 15 false (.call (.func 32) [.tmp 16, .tmp 17]),
gq 19 15 false (.una .not (.tmp 18)),
oq 20 (.pick (.tmp 15) (.const (.bool true)) (.tmp 19))]) (.cond (.tmp 20) (.seq (.ops false [
oq 6 (.mov (.const (Value.slice none 0 0))),
oq 7 (.mov (.const (.int .i64 2)))]) .ret) .skip)) (.seq (.ops false [
oq 8 (.mov (.const (Value.slice none 0 0)))]) (.seq (.seq (.ops false [
oq 21 (.fad 1 (.tmp 4)),
oq 22 (.ld1 (.tmp 21)),
oq 23 (.fad 1 (.tmp 5)),
oq 24 (.ld1 (.tmp 23)),
oq 25 (.mnx false [.tmp 22, .tmp 24]),
oq 9 (.mov (.tmp 25))]) (.block 0 (.loop (.seq (.seq (.ops false [
oq 26 (.mov (.tmp 9)),
oq 27 (.fad 1 (.tmp 4)),
oq 28 (.ld1 (.tmp 27)),
oq 29 (.fad 1 (.tmp 5)),
oq 30 (.ld1 (.tmp 29)),
oq 31 (.mnx true [.tmp 28, .tmp 30]),
oq 32 (.bin .leq (.tmp 26) (.tmp 31))]) (.cond (.tmp 32) .skip (.exit 0))) (.seq (.block 1 (.seq (.ops false [
oq 35 (.fad 0 (.tmp 4)),
oq 36 (.ld1 (.tmp 35)),
oq 37 (.fad 0 (.tmp 5)),
oq 38 (.ld1 (.tmp 37)),
oq 39 (.mnx false [.tmp 36, .tmp 38]),
oq 10 (.mov (.tmp 39))]) (.block 2 (.loop (.seq (.seq (.ops false [
oq 40 (.mov (.tmp 10)),
oq 41 (.fad 0 (.tmp 4)),
oq 42 (.ld1 (.tmp 41)),
oq 43 (.fad 0 (.tmp 5)),
oq 44 (.ld1 (.tmp 43)),
oq 45 (.mnx true [.tmp 42, .tmp 44]),
oq 46 (.bin .leq (.tmp 40) (.tmp 45))]) (.cond (.tmp 46) .skip (.exit 2))) (.seq (.block 3 (.ops false [
oq 49 (.mov (.tmp 8)),
oq 50 (.ldn 4 (.tmp 3)),
oq 51 (.mov (.tmp 10)),
oq 52 (.mov (.tmp 9)),
oq 53 (.bld [.int .i64 0, .int .i64 0] [(0, 1, .tmp 51), (1, 1, .tmp 52)]),
oq 54 (.call (.func 44) [.tmp 50, .tmp 53]),
oq 55 (.bsl 1 [.int .i64 0] [(0, 1, .tmp 54)]),
oq 56 (.app 1 8 (.tmp 49) (.tmp 55)),
oq 8 (.mov (.tmp 56))])) (.ops false [
oq 47 (.mov (.tmp 10)),
oq 48 (.bin .add (.tmp 47) (cq 1)),
oq 10 (.mov (.tmp 48))]))))))) (.ops false [
oq 33 (.mov (.tmp 9)),
oq 34 (.bin .add (.tmp 33) (cq 1)),
oq 9 (.mov (.tmp 34))])))))) (.seq (.ops false [
oq 57 (.mov (.tmp 8)),
oq 6 (.mov (.tmp 57)),
oq 7 (.mov (cq 0))]) .ret))))) }
theorem t24 : tabP Try.prog 0 24 = some ic24 := by kernel_rfl
/-- bandplan/bandplanlaw10.equal -/
def ic25 : IFn := { ntmps := 26, results := [.tmp 4], code := (.seq (.ops false [
oq 4 (.mov (.const (.bool false)))]) (.seq (.seq (.ops false [
oq 6 (.mov (.tmp 0)),
oq 7 (.len .sl (.tmp 6)),
oq 8 (.mov (.tmp 1)),
oq 9 (.len .sl (.tmp 8)),
oq 10 (.bin .neq (.tmp 7) (.tmp 9))]) (.cond (.tmp 10) (.seq (.ops false [
oq 4 (.mov (.const (.bool false)))]) .ret) .skip)) (.seq (.seq (.ops false [
oq 5 (.mov (cq 0))]) (.block 0 (.loop (.seq (.seq (.ops false [
oq 11 (.mov (.tmp 5)),
oq 12 (.mov (.tmp 0)),
oq 13 (.len .sl (.tmp 12)),
oq 14 (.bin .lss (.tmp 11) (.tmp 13))]) (.cond (.tmp 14) .skip (.exit 0))) (.seq (.block 1 (.seq (.ops true [
oq 17 (.mov (.tmp 0)),
oq 18 (.mov (.tmp 5)),
oq 19 (.ixs 1 (.tmp 17) (.tmp 18)),
oq 20 (.ld1 (.tmp 19)),
oq 21 (.mov (.tmp 1)),
oq 22 (.mov (.tmp 5)),
oq 23 (.ixs 1 (.tmp 21) (.tmp 22)),
oq 24 (.ld1 (.tmp 23)),
oq 25 (.bin .neq (.tmp 20) (.tmp 24))]) (.cond (.tmp 25) (.seq (.ops false [
oq 4 (.mov (.const (.bool false)))]) .ret) .skip))) (.ops false [
oq 15 (.mov (.tmp 5)),
oq 16 (.bin .add (.tmp 15) (cq 1)),
oq 5 (.mov (.tmp 16))])))))) (.seq (.ops false [
oq 4 (.mov (.const (.bool true)))]) .ret)))) }
theorem t25 : tabP Try.prog 0 25 = some ic25 := by kernel_rfl
/-- bandplan/bandplanref10.Profile -/
def ic26 : IFn := { ntmps := 55, results := [.tmp 6], code := (.seq (.ops false [
oq 3 (.box 4 (.tmp 0)),
oq 4 (.box 2 (.tmp 1)),
oq 5 (.box 2 (.tmp 2)),
oq 6 (.mov (.const (Value.slice none 0 0)))]) (.seq (.ops true [
oq 10 (.fad 2 (.tmp 3)),
oq 11 (.ld1 (.tmp 10)),
oq 12 (.ldn 4 (.tmp 3)),
oq 13 (.ldn 2 (.tmp 4)),
⟨some 14, none, true, .call (.func 37) [.tmp 12, .tmp 13]⟩,
oq 15 (.ixs 1 (.tmp 11) (.tmp 14)),
oq 16 (.ld1 (.tmp 15)),
oq 17 (.bsl 1 [.int .i64 0] [(0, 1, .tmp 16)]),
oq 7 (.mov (.tmp 17))]) (.seq (.ops false [
oq 18 (.ldn 2 (.tmp 4)),
oq 19 (.ldn 2 (.tmp 5)),
oq 20 (.call (.func 22) [.tmp 18, .tmp 19]),
oq 8 (.mov (.tmp 20))]) (.seq (.seq (.ops false [
oq 9 (.mov (cq 0))]) (.block 0 (.loop (.seq (.seq (.ops false [
oq 21 (.mov (.tmp 9)),
oq 22 (.mov (.tmp 8)),
oq 23 (.len .sl (.tmp 22)),
oq 24 (.bin .lss (.tmp 21) (.tmp 23))]) (.cond (.tmp 24) .skip (.exit 0))) (.seq (.block 1 (.ops true [
oq 27 (.mov (.tmp 7)),
oq 28 (.fad 2 (.tmp 3)),
oq 29 (.ld1 (.tmp 28)),
oq 30 (.ldn 4 (.tmp 3)),
oq 31 (.mov (.tmp 8)),
oq 32 (.mov (.tmp 9)),
oq 33 (.ixs 2 (.tmp 31) (.tmp 32)),
oq 34 (.ldn 2 (.tmp 33)),
⟨some 35, none, true, .call (.func 37) [.tmp 30, .tmp 34]⟩,
oq 36 (.ixs 1 (.tmp 29) (.tmp 35)),
oq 37 (.ld1 (.tmp 36)),
oq 38 (.bsl 1 [.int .i64 0] [(0, 1, .tmp 37)]),
oq 39 (.app 1 8 (.tmp 27) (.tmp 38)),
oq 7 (.mov (.tmp 39))])) (.ops false [
oq 25 (.mov (.tmp 9)),
oq 26 (.bin .add (.tmp 25) (cq 1)),
oq 9 (.mov (.tmp 26))])))))) (.seq (.seq (.ops false [
oq 40 (.ldn 2 (.tmp 4)),
oq 41 (.ldn 2 (.tmp 5)),
oq 42 (.call (.func 47) [.tmp 40, .tmp 41]),
oq 43 (.bin .gtr (.tmp 42) (cq 0))]) (.cond (.tmp 43) (.ops true [
oq 44 (.mov (.tmp 7)),
oq 45 (.fad 2 (.tmp 3)),
oq 46 (.ld1 (.tmp 45)),
oq 47 (.ldn 4 (.tmp 3)),
oq 48 (.ldn 2 (.tmp 5)),
⟨some 49, none, true, .call (.func 37) [.tmp 47, .tmp 48]⟩,
oq 50 (.ixs 1 (.tmp 46) (.tmp 49)),
oq 51 (.ld1 (.tmp 50)),
oq 52 (.bsl 1 [.int .i64 0] [(0, 1, .tmp 51)]),
oq 53 (.app 1 8 (.tmp 44) (.tmp 52)),
oq 7 (.mov (.tmp 53))]) .skip)) (.seq (.ops false [
oq 54 (.mov (.tmp 7)),
oq 6 (.mov (.tmp 54))]) .ret)))))) }
theorem t26 : tabP Try.prog 0 26 = some ic26 := by kernel_rfl
/-- bandplan/bandplanref10.Rect -/
def ic27 : IFn := { ntmps := 43, results := [.tmp 6], code := (.seq (.ops false [
oq 3 (.box 4 (.tmp 0)),
oq 4 (.box 2 (.tmp 1)),
oq 5 (.box 2 (.tmp 2)),
oq 6 (.mov (.const (Value.slice none 0 0)))]) (.seq (.ops false [
oq 7 (.mov (.const (Value.slice none 0 0)))]) (.seq (.seq (.ops false [
oq 8 (.mov (cq 0))]) (.block 0 (.loop (.seq (.seq (.ops false [
oq 10 (.mov (.tmp 8)),
oq 11 (.fad 0 (.tmp 3)),
oq 12 (.ld1 (.tmp 11)),
oq 13 (.fad 1 (.tmp 3)),
oq 14 (.ld1 (.tmp 13)),
oq 15 (.bin .mul (.tmp 12) (.tmp 14)),
oq 16 (.bin .lss (.tmp 10) (.tmp 15))]) (.cond (.tmp 16) .skip (.exit 0))) (.seq (.block 1 (.seq (.ops false [
oq 19 (.ldn 4 (.tmp 3)),
oq 20 (.mov (.tmp 8)),
oq 21 (.call (.func 38) [.tmp 19, .tmp 20]),
oq 9 (.new [.int .i64 0, .int .i64 0]),
⟨none, none, false, .sto 2 (.tmp 9) (.tmp 21)⟩]) (.seq (.ops false [
oq 22 (.fad 0 (.tmp 9)),
oq 23 (.ld1 (.tmp 22)),
oq 24 (.fad 0 (.tmp 4)),
oq 25 (.ld1 (.tmp 24)),
oq 26 (.fad 0 (.tmp 5)),
oq 27 (.ld1 (.tmp 26)),
oq 28 (.call (.func 49) [.tmp 23, .tmp 25, .tmp 27]),
oq 29 (.mov (.tmp 28)),
gq 30 29 true (.fad 1 (.tmp 9)),
gq 31 29 true (.ld1 (.tmp 30)),
gq 32 29 true (.fad 1 (.tmp 4)),
gq 33 29 true (.ld1 (.tmp 32)),
gq 34 29 true (.fad 1 (.tmp 5)),
gq 35 29 true (.ld1 (.tmp 34)),
gq 36 29 true (.call (.func 49) [.tmp 31, .tmp 33, .tmp 35]),
oq 37 (.pick (.tmp 29) (.tmp 36) (.const (.bool false)))]) (.cond (.tmp 37) (.ops false [
oq 38 (.mov (.tmp 7)),
oq 39 (.mov (.tmp 8)),
oq 40 (.bsl 1 [.int .i64 0] [(0, 1, .tmp 39)]),
oq 41 (.app 1 8 (.tmp 38) (.tmp 40)),
oq 7 (.mov (.tmp 41))]) .skip)))) (.ops false [
oq 17 (.mov (.tmp 8)),
oq 18 (.bin .add (.tmp 17) (cq 1)),
oq 8 (.mov (.tmp 18))])))))) (.seq (.ops false [
oq 42 (.mov (.tmp 7)),
oq 6 (.mov (.tmp 42))]) .ret)))) }
theorem t27 : tabP Try.prog 0 27 = some ic27 := by kernel_rfl
/-- bandplan/terrain.Total -/
def ic28 : IFn := { ntmps := 46, results := [.tmp 4, .tmp 5], code := (.seq (.ops false [
oq 2 (.box 4 (.tmp 0)),
oq 4 (.mov (cq 0)),
oq 5 (.mov (cq 0))]) (.seq (.seq (.ops false [
oq 10 (.ldn 4 (.tmp 2)),
oq 11 (.call (.func 15) [.tmp 10]),
oq 12 (.una .not (.tmp 11)),
oq 13 (.mov (.tmp 12)),
gq 14 13 false (.mov (.tmp 1)),
gq 15 13 false (.fad 3 (.tmp 2)),
gq 16 13 false (.ld1 (.tmp 15)),
gq 17 13 false (.len .sl (.tmp 16)),
gq 18 13 false (.bin .sub (.tmp 17) (cq 1)),
gq 19 13 false (.call (.func 43) [cq 0, .tmp 14, .tmp 18]),
gq 20 13 false (.una .not (.tmp 19)),
oq 21 (.pick (.tmp 13) (.const (.bool true)) (.tmp 20))]) (.cond (.tmp 21) (.seq (.ops false [
oq 4 (.mov (cq 0)),
oq 5 (.mov (.const (.int .i64 2)))]) .ret) .skip)) (.seq (.ops false [
oq 6 (.mov (cq 0))]) (.seq (.ops false [
oq 22 (.mov (.tmp 1)),
oq 23 (.len .sl (.tmp 22)),
oq 24 (.mkh (.tmp 23)),
oq 7 (.mov (.tmp 24))]) (.seq (.seq (.ops false [
oq 25 (.mov (.tmp 1)),
oq 26 (.len .sl (.tmp 25)),
oq 27 (.mov (cq 0))]) (.block 0 (.loop (.seq (.ops false [
oq 28 (.bin .lss (.tmp 27) (.tmp 26))]) (.seq (.cond (.tmp 28) .skip (.exit 0)) (.seq (.block 1 (.seq (.ops false [
oq 29 (.ixs 1 (.tmp 25) (.tmp 27)),
oq 30 (.ld1 (.tmp 29)),
oq 9 (.mov (.tmp 30))]) (.seq (.ops false [
oq 31 (.mov (.tmp 7)),
oq 32 (.mov (.tmp 9)),
oq 33 (.lkp ⟨false, [.i]⟩ (.bool false) false (.tmp 31) (.tmp 32)),
oq 34 (.una .not (.tmp 33))]) (.cond (.tmp 34) (.seq (.ops false [
oq 35 (.mov (.tmp 7)),
oq 36 (.mov (.tmp 9)),
⟨none, none, false, .mup ⟨false, [.i]⟩ (.tmp 35) (.tmp 36) (.const (.bool true))⟩]) (.ops false [
oq 37 (.mov (.tmp 6)),
oq 38 (.fad 3 (.tmp 2)),
oq 39 (.ld1 (.tmp 38)),
oq 40 (.mov (.tmp 9)),
oq 41 (.ixs 1 (.tmp 39) (.tmp 40)),
oq 42 (.ld1 (.tmp 41)),
oq 43 (.bin .add (.tmp 37) (.tmp 42)),
oq 6 (.mov (.tmp 43))])) .skip)))) (.ops false [
oq 44 (.bin .add (.tmp 27) (cq 1)),
oq 27 (.mov (.tmp 44))]))))))) (.seq (.ops false [
oq 45 (.mov (.tmp 6)),
oq 4 (.mov (.tmp 45)),
oq 5 (.mov (cq 0))]) .ret)))))) }
theorem t28 : tabP Try.prog 0 28 = some ic28 := by kernel_rfl
/-- bandplan/bandplanref10.Valid -/
def ic29 : IFn := { ntmps := 75, results := [.tmp 2], code := (.seq (.ops false [
oq 1 (.box 4 (.tmp 0)),
oq 2 (.mov (.const (.bool false)))]) (.seq (.seq (.ops false [
oq 5 (.fad 0 (.tmp 1)),
oq 6 (.ld1 (.tmp 5)),
oq 7 (.bin .lss (.tmp 6) (cq 1)),
oq 8 (.mov (.tmp 7)),
gq 9 8 false (.fad 0 (.tmp 1)),
gq 10 8 false (.ld1 (.tmp 9)),
gq 11 8 false (.bin .gtr (.tmp 10) (.const (.int .i64 64))),
oq 12 (.pick (.tmp 8) (.const (.bool true)) (.tmp 11)),
oq 13 (.mov (.tmp 12)),
gq 14 13 false (.fad 1 (.tmp 1)),
gq 15 13 false (.ld1 (.tmp 14)),
gq 16 13 false (.bin .lss (.tmp 15) (cq 1)),
oq 17 (.pick (.tmp 13) (.const (.bool true)) (.tmp 16)),
oq 18 (.mov (.tmp 17)),
gq 19 18 false (.fad 1 (.tmp 1)),
gq 20 18 false (.ld1 (.tmp 19)),
gq 21 18 false (.bin .gtr (.tmp 20) (.const (.int .i64 64))),
oq 22 (.pick (.tmp 18) (.const (.bool true)) (.tmp 21))]) (.cond (.tmp 22) (.seq (.ops false [
oq 2 (.mov (.const (.bool false)))]) .ret) .skip)) (.seq (.ops false [
oq 23 (.fad 0 (.tmp 1)),
oq 24 (.ld1 (.tmp 23)),
oq 25 (.fad 1 (.tmp 1)),
oq 26 (.ld1 (.tmp 25)),
oq 27 (.bin .mul (.tmp 24) (.tmp 26)),
oq 3 (.mov (.tmp 27))]) (.seq (.seq (.ops false [
oq 28 (.fad 2 (.tmp 1)),
oq 29 (.ld1 (.tmp 28)),
oq 30 (.len .sl (.tmp 29)),
oq 31 (.mov (.tmp 3)),
oq 32 (.bin .neq (.tmp 30) (.tmp 31)),
oq 33 (.mov (.tmp 32)),
gq 34 33 false (.fad 3 (.tmp 1)),
gq 35 33 false (.ld1 (.tmp 34)),
gq 36 33 false (.len .sl (.tmp 35)),
gq 37 33 false (.mov (.tmp 3)),
gq 38 33 false (.bin .neq (.tmp 36) (.tmp 37)),
oq 39 (.pick (.tmp 33) (.const (.bool true)) (.tmp 38))]) (.cond (.tmp 39) (.seq (.ops false [
oq 2 (.mov (.const (.bool false)))]) .ret) .skip)) (.seq (.seq (.ops false [
oq 4 (.mov (cq 0))]) (.block 0 (.loop (.seq (.seq (.ops false [
oq 40 (.mov (.tmp 4)),
oq 41 (.mov (.tmp 3)),
oq 42 (.bin .lss (.tmp 40) (.tmp 41))]) (.cond (.tmp 42) .skip (.exit 0))) (.seq (.block 1 (.seq (.ops false [
oq 45 (.fad 2 (.tmp 1)),
oq 46 (.ld1 (.tmp 45)),
oq 47 (.mov (.tmp 4)),
oq 48 (.ixs 1 (.tmp 46) (.tmp 47)),
oq 49 (.ld1 (.tmp 48)),
oq 50 (.bin .lss (.tmp 49) (cq 0)),
oq 51 (.mov (.tmp 50)),
gq 52 51 false (.fad 2 (.tmp 1)),
gq 53 51 false (.ld1 (.tmp 52)),
gq 54 51 false (.mov (.tmp 4)),
gq 55 51 false (.ixs 1 (.tmp 53) (.tmp 54)),
gq 56 51 false (.ld1 (.tmp 55)),
gq 57 51 false (.bin .gtr (.tmp 56) (.const (.int .i64 9000))),
oq 58 (.pick (.tmp 51) (.const (.bool true)) (.tmp 57)),
oq 59 (.mov (.tmp 58)),
gq 60 59 false (.fad 3 (.tmp 1)),
gq 61 59 false (.ld1 (.tmp 60)),
gq 62 59 false (.mov (.tmp 4)),
gq 63 59 false (.ixs 1 (.tmp 61) (.tmp 62)),
gq 64 59 false (.ld1 (.tmp 63)),
gq 65 59 false (.bin .lss (.tmp 64) (cq 0)),
oq 66 (.pick (.tmp 59) (.const (.bool true)) (.tmp 65)),
oq 67 (.mov (.tmp 66)),
gq 68 67 false (.fad 3 (.tmp 1)),
gq 69 67 false (.ld1 (.tmp 68)),
gq 70 67 false (.mov (.tmp 4)),
gq 71 67 false (.ixs 1 (.tmp 69) (.tmp 70)),
gq 72 67 false (.ld1 (.tmp 71)),
gq 73 67 false (.bin .gtr (.tmp 72) (.const (.int .i64 1000000))),
oq 74 (.pick (.tmp 67) (.const (.bool true)) (.tmp 73))]) (.cond (.tmp 74) (.seq (.ops false [
oq 2 (.mov (.const (.bool false)))]) .ret) .skip))) (.ops false [
oq 43 (.mov (.tmp 4)),
oq 44 (.bin .add (.tmp 43) (cq 1)),
oq 4 (.mov (.tmp 44))])))))) (.seq (.ops false [
oq 2 (.mov (.const (.bool true)))]) .ret)))))) }
theorem t29 : tabP Try.prog 0 29 = some ic29 := by kernel_rfl
/-- bandplan/bandplanref10.Total -/
def ic30 : IFn := { ntmps := 63, results := [.tmp 4, .tmp 5], code := (.seq (.ops false [
oq 2 (.box 4 (.tmp 0)),
oq 4 (.mov (cq 0)),
oq 5 (.mov (.const (.bool false)))]) (.seq (.ops false [
oq 6 (.mov (cq 0))]) (.seq (.seq (.ops false [
oq 7 (.mov (cq 0))]) (.block 0 (.loop (.seq (.seq (.ops false [
oq 10 (.mov (.tmp 7)),
oq 11 (.mov (.tmp 1)),
oq 12 (.len .sl (.tmp 11)),
oq 13 (.bin .lss (.tmp 10) (.tmp 12))]) (.cond (.tmp 13) .skip (.exit 0))) (.seq (.block 1 (.seq (.seq (.ops true [
oq 16 (.mov (.tmp 1)),
oq 17 (.mov (.tmp 7)),
oq 18 (.ixs 1 (.tmp 16) (.tmp 17)),
oq 19 (.ld1 (.tmp 18)),
oq 20 (.bin .lss (.tmp 19) (cq 0)),
oq 21 (.mov (.tmp 20)),
gq 22 21 false (.mov (.tmp 1)),
gq 23 21 false (.mov (.tmp 7)),
gq 24 21 false (.ixs 1 (.tmp 22) (.tmp 23)),
gq 25 21 false (.ld1 (.tmp 24)),
gq 26 21 false (.fad 0 (.tmp 2)),
gq 27 21 false (.ld1 (.tmp 26)),
gq 28 21 false (.fad 1 (.tmp 2)),
gq 29 21 false (.ld1 (.tmp 28)),
gq 30 21 false (.bin .mul (.tmp 27) (.tmp 29)),
gq 31 21 false (.bin .geq (.tmp 25) (.tmp 30)),
oq 32 (.pick (.tmp 21) (.const (.bool true)) (.tmp 31))]) (.cond (.tmp 32) (.seq (.ops false [
oq 4 (.mov (cq 0)),
oq 5 (.mov (.const (.bool false)))]) .ret) .skip)) (.seq (.ops false [
oq 8 (.mov (.const (.bool false)))]) (.seq (.seq (.ops false [
oq 9 (.mov (cq 0))]) (.block 2 (.loop (.seq (.seq (.ops false [
oq 33 (.mov (.tmp 9)),
oq 34 (.mov (.tmp 7)),
oq 35 (.bin .lss (.tmp 33) (.tmp 34))]) (.cond (.tmp 35) .skip (.exit 2))) (.seq (.block 3 (.ops true [
oq 38 (.mov (.tmp 8)),
oq 39 (.mov (.tmp 38)),
gq 40 39 false (.mov (.tmp 1)),
gq 41 39 false (.mov (.tmp 9)),
gq 42 39 false (.ixs 1 (.tmp 40) (.tmp 41)),
gq 43 39 false (.ld1 (.tmp 42)),
gq 44 39 false (.mov (.tmp 1)),
gq 45 39 false (.mov (.tmp 7)),
gq 46 39 false (.ixs 1 (.tmp 44) (.tmp 45)),
gq 47 39 false (.ld1 (.tmp 46)),
gq 48 39 false (.bin .eql (.tmp 43) (.tmp 47)),
oq 49 (.pick (.tmp 39) (.const (.bool true)) (.tmp 48)),
oq 8 (.mov (.tmp 49))])) (.ops false [
oq 36 (.mov (.tmp 9)),
oq 37 (.bin .add (.tmp 36) (cq 1)),
oq 9 (.mov (.tmp 37))])))))) (.seq (.ops false [
oq 50 (.mov (.tmp 8)),
oq 51 (.una .not (.tmp 50))]) (.cond (.tmp 51) (.ops true [
oq 52 (.mov (.tmp 6)),
oq 53 (.fad 3 (.tmp 2)),
oq 54 (.ld1 (.tmp 53)),
oq 55 (.mov (.tmp 1)),
oq 56 (.mov (.tmp 7)),
oq 57 (.ixs 1 (.tmp 55) (.tmp 56)),
oq 58 (.ld1 (.tmp 57)),
oq 59 (.ixs 1 (.tmp 54) (.tmp 58)),
oq 60 (.ld1 (.tmp 59)),
oq 61 (.bin .add (.tmp 52) (.tmp 60)),
oq 6 (.mov (.tmp 61))]) .skip)))))) (.ops false [
oq 14 (.mov (.tmp 7)),
oq 15 (.bin .add (.tmp 14) (cq 1)),
oq 7 (.mov (.tmp 15))])))))) (.seq (.ops false [
oq 62 (.mov (.tmp 6)),
oq 4 (.mov (.tmp 62)),
oq 5 (.mov (.const (.bool true)))]) .ret)))) }
theorem t30 : tabP Try.prog 0 30 = some ic30 := by kernel_rfl
/-- bandplan/bandplanlaw10.near -/
def ic31 : IFn := { ntmps := 9, results := [.tmp 4], code := (.seq (.ops false [
oq 2 (.box 2 (.tmp 0)),
oq 3 (.box 2 (.tmp 1)),
oq 4 (.mov (.const (.bool false)))]) (.seq (.ops false [
oq 5 (.ldn 2 (.tmp 2)),
oq 6 (.ldn 2 (.tmp 3)),
oq 7 (.call (.func 47) [.tmp 5, .tmp 6]),
oq 8 (.bin .leq (.tmp 7) (cq 1)),
oq 4 (.mov (.tmp 8))]) .ret)) }
theorem t31 : tabP Try.prog 0 31 = some ic31 := by kernel_rfl
/-- bandplan/terrain.Has -/
def ic32 : IFn := { ntmps := 23, results := [.tmp 4], code := (.seq (.ops false [
oq 2 (.box 4 (.tmp 0)),
oq 3 (.box 2 (.tmp 1)),
oq 4 (.mov (.const (.bool false)))]) (.seq (.ops false [
oq 5 (.fad 0 (.tmp 3)),
oq 6 (.ld1 (.tmp 5)),
oq 7 (.fad 0 (.tmp 2)),
oq 8 (.ld1 (.tmp 7)),
oq 9 (.bin .sub (.tmp 8) (cq 1)),
oq 10 (.call (.func 41) [cq 0, .tmp 6, .tmp 9]),
oq 11 (.mov (.tmp 10)),
gq 12 11 true (.fad 1 (.tmp 3)),
gq 13 11 true (.ld1 (.tmp 12)),
gq 14 11 true (.fad 1 (.tmp 2)),
gq 15 11 true (.ld1 (.tmp 14)),
gq 16 11 true (.bin .sub (.tmp 15) (cq 1)),
gq 17 11 true (.call (.func 41) [cq 0, .tmp 13, .tmp 16]),
oq 18 (.pick (.tmp 11) (.tmp 17) (.const (.bool false))),
oq 19 (.mov (.tmp 18)),
gq 20 19 true (.ldn 4 (.tmp 2)),
gq 21 19 true (.call (.func 15) [.tmp 20]),
oq 22 (.pick (.tmp 19) (.tmp 21) (.const (.bool false))),
oq 4 (.mov (.tmp 22))]) .ret)) }
theorem t32 : tabP Try.prog 0 32 = some ic32 := by kernel_rfl
/-- bandplan/terrain.Index -/
def ic33 : IFn := { ntmps := 13, results := [.tmp 4, .tmp 5], code := (.seq (.ops false [
oq 2 (.box 4 (.tmp 0)),
oq 3 (.box 2 (.tmp 1)),
oq 4 (.mov (cq 0)),
oq 5 (.mov (cq 0))]) (.seq (.seq (.ops false [
oq 6 (.ldn 4 (.tmp 2)),
oq 7 (.ldn 2 (.tmp 3)),
oq 8 (.call (.func 32) [.tmp 6, .tmp 7]),
oq 9 (.una .not (.tmp 8))]) (.cond (.tmp 9) (.seq (.ops false [
oq 4 (.mov (cq 0)),
oq 5 (.mov (.const (.int .i64 2)))]) .ret) .skip)) (.seq (.ops false [
oq 10 (.ldn 4 (.tmp 2)),
oq 11 (.ldn 2 (.tmp 3)),
oq 12 (.call (.func 44) [.tmp 10, .tmp 11]),
oq 4 (.mov (.tmp 12)),
oq 5 (.mov (cq 0))]) .ret))) }
theorem t33 : tabP Try.prog 0 33 = some ic33 := by kernel_rfl
/-- bandplan/terrain.Ground -/
def ic34 : IFn := { ntmps := 17, results := [.tmp 4, .tmp 5], code := (.seq (.ops false [
oq 2 (.box 4 (.tmp 0)),
oq 3 (.box 2 (.tmp 1)),
oq 4 (.mov (cq 0)),
oq 5 (.mov (cq 0))]) (.seq (.seq (.ops false [
oq 6 (.ldn 4 (.tmp 2)),
oq 7 (.ldn 2 (.tmp 3)),
oq 8 (.call (.func 32) [.tmp 6, .tmp 7]),
oq 9 (.una .not (.tmp 8))]) (.cond (.tmp 9) (.seq (.ops false [
oq 4 (.mov (cq 0)),
oq 5 (.mov (.const (.int .i64 2)))]) .ret) .skip)) (.seq (.ops true [
oq 10 (.fad 2 (.tmp 2)),
oq 11 (.ld1 (.tmp 10)),
oq 12 (.ldn 4 (.tmp 2)),
oq 13 (.ldn 2 (.tmp 3)),
⟨some 14, none, true, .call (.func 44) [.tmp 12, .tmp 13]⟩,
oq 15 (.ixs 1 (.tmp 11) (.tmp 14)),
oq 16 (.ld1 (.tmp 15)),
oq 4 (.mov (.tmp 16)),
oq 5 (.mov (cq 0))]) .ret))) }
theorem t34 : tabP Try.prog 0 34 = some ic34 := by kernel_rfl
/-- bandplan/terrain.People -/
def ic35 : IFn := { ntmps := 17, results := [.tmp 4, .tmp 5], code := (.seq (.ops false [
oq 2 (.box 4 (.tmp 0)),
oq 3 (.box 2 (.tmp 1)),
oq 4 (.mov (cq 0)),
oq 5 (.mov (cq 0))]) (.seq (.seq (.ops false [
oq 6 (.ldn 4 (.tmp 2)),
oq 7 (.ldn 2 (.tmp 3)),
oq 8 (.call (.func 32) [.tmp 6, .tmp 7]),
oq 9 (.una .not (.tmp 8))]) (.cond (.tmp 9) (.seq (.ops false [
oq 4 (.mov (cq 0)),
oq 5 (.mov (.const (.int .i64 2)))]) .ret) .skip)) (.seq (.ops true [
oq 10 (.fad 3 (.tmp 2)),
oq 11 (.ld1 (.tmp 10)),
oq 12 (.ldn 4 (.tmp 2)),
oq 13 (.ldn 2 (.tmp 3)),
⟨some 14, none, true, .call (.func 44) [.tmp 12, .tmp 13]⟩,
oq 15 (.ixs 1 (.tmp 11) (.tmp 14)),
oq 16 (.ld1 (.tmp 15)),
oq 4 (.mov (.tmp 16)),
oq 5 (.mov (cq 0))]) .ret))) }
theorem t35 : tabP Try.prog 0 35 = some ic35 := by kernel_rfl
/-- bandplan/terrain.At -/
def ic36 : IFn := { ntmps := 28, results := [.agg 4 2, .tmp 5], code := (.seq (.ops false [
oq 2 (.box 4 (.tmp 0)),
oq 4 (.new [.int .i64 0, .int .i64 0]),
oq 5 (.mov (cq 0))]) (.seq (.seq (.ops false [
oq 6 (.ldn 4 (.tmp 2)),
oq 7 (.call (.func 15) [.tmp 6]),
oq 8 (.una .not (.tmp 7)),
oq 9 (.mov (.tmp 8)),
gq 10 9 false (.mov (.tmp 1)),
gq 11 9 false (.fad 2 (.tmp 2)),
gq 12 9 false (.ld1 (.tmp 11)),
gq 13 9 false (.len .sl (.tmp 12)),
gq 14 9 false (.bin .sub (.tmp 13) (cq 1)),
gq 15 9 false (.call (.func 41) [cq 0, .tmp 10, .tmp 14]),
gq 16 9 false (.una .not (.tmp 15)),
oq 17 (.pick (.tmp 9) (.const (.bool true)) (.tmp 16))]) (.cond (.tmp 17) (.seq (.ops false [
oq 18 (.bld [.int .i64 0, .int .i64 0] []),
⟨none, none, false, .sto 2 (.tmp 4) (.tmp 18)⟩,
oq 5 (.mov (.const (.int .i64 2)))]) .ret) .skip)) (.seq (.ops true [
oq 19 (.mov (.tmp 1)),
oq 20 (.fad 0 (.tmp 2)),
oq 21 (.ld1 (.tmp 20)),
oq 22 (.bin .rem (.tmp 19) (.tmp 21)),
oq 23 (.mov (.tmp 1)),
oq 24 (.fad 0 (.tmp 2)),
oq 25 (.ld1 (.tmp 24)),
oq 26 (.bin .quo (.tmp 23) (.tmp 25)),
oq 27 (.bld [.int .i64 0, .int .i64 0] [(0, 1, .tmp 22), (1, 1, .tmp 26)]),
⟨none, none, false, .sto 2 (.tmp 4) (.tmp 27)⟩,
oq 5 (.mov (cq 0))]) .ret))) }
theorem t36 : tabP Try.prog 0 36 = some ic36 := by kernel_rfl
/-- bandplan/bandplanref10.Index -/
def ic37 : IFn := { ntmps := 13, results := [.tmp 4], code := (.seq (.ops false [
oq 2 (.box 4 (.tmp 0)),
oq 3 (.box 2 (.tmp 1)),
oq 4 (.mov (cq 0))]) (.seq (.ops false [
oq 5 (.fad 1 (.tmp 3)),
oq 6 (.ld1 (.tmp 5)),
oq 7 (.fad 0 (.tmp 2)),
oq 8 (.ld1 (.tmp 7)),
oq 9 (.bin .mul (.tmp 6) (.tmp 8)),
oq 10 (.fad 0 (.tmp 3)),
oq 11 (.ld1 (.tmp 10)),
oq 12 (.bin .add (.tmp 9) (.tmp 11)),
oq 4 (.mov (.tmp 12))]) .ret)) }
theorem t37 : tabP Try.prog 0 37 = some ic37 := by kernel_rfl
/-- bandplan/bandplanref10.At -/
def ic38 : IFn := { ntmps := 14, results := [.agg 4 2], code := (.seq (.ops false [
oq 2 (.box 4 (.tmp 0)),
oq 4 (.new [.int .i64 0, .int .i64 0])]) (.seq (.ops true [
oq 5 (.mov (.tmp 1)),
oq 6 (.fad 0 (.tmp 2)),
oq 7 (.ld1 (.tmp 6)),
oq 8 (.bin .rem (.tmp 5) (.tmp 7)),
oq 9 (.mov (.tmp 1)),
oq 10 (.fad 0 (.tmp 2)),
oq 11 (.ld1 (.tmp 10)),
oq 12 (.bin .quo (.tmp 9) (.tmp 11)),
oq 13 (.bld [.int .i64 0, .int .i64 0] [(0, 1, .tmp 8), (1, 1, .tmp 12)]),
⟨none, none, false, .sto 2 (.tmp 4) (.tmp 13)⟩]) .ret)) }
theorem t38 : tabP Try.prog 0 38 = some ic38 := by kernel_rfl
/-- bandplan/terrain.Equal -/
def ic39 : IFn := { ntmps := 27, results := [.tmp 4], code := (.seq (.ops false [
oq 2 (.box 4 (.tmp 0)),
oq 3 (.box 4 (.tmp 1)),
oq 4 (.mov (.const (.bool false)))]) (.seq (.ops false [
oq 5 (.mov (.func 50))]) (.seq (.ops true [
oq 6 (.mov (.tmp 5)),
oq 7 (.ldn 4 (.tmp 2)),
⟨some 8, none, true, .call (.tmp 6) [.tmp 7]⟩,
oq 9 (.mov (.tmp 5)),
oq 10 (.ldn 4 (.tmp 3)),
oq 11 (.call (.tmp 9) [.tmp 10]),
oq 12 (.eq (.flat [.i, .i]) false (.tmp 8) (.tmp 11)),
oq 13 (.mov (.tmp 12)),
gq 14 13 true (.fad 2 (.tmp 2)),
gq 15 13 true (.ld1 (.tmp 14)),
gq 16 13 true (.fad 2 (.tmp 3)),
gq 17 13 true (.ld1 (.tmp 16)),
gq 18 13 true (.call (.func 51) [.tmp 15, .tmp 17]),
oq 19 (.pick (.tmp 13) (.tmp 18) (.const (.bool false))),
oq 20 (.mov (.tmp 19)),
gq 21 20 true (.fad 3 (.tmp 2)),
gq 22 20 true (.ld1 (.tmp 21)),
gq 23 20 true (.fad 3 (.tmp 3)),
gq 24 20 true (.ld1 (.tmp 23)),
gq 25 20 true (.call (.func 51) [.tmp 22, .tmp 24]),
oq 26 (.pick (.tmp 20) (.tmp 25) (.const (.bool false))),
oq 4 (.mov (.tmp 26))]) .ret))) }
theorem t39 : tabP Try.prog 0 39 = some ic39 := by kernel_rfl
/-- bandplan/terrain.Copy -/
def ic40 : IFn := { ntmps := 14, results := [.agg 2 4], code := (.seq (.ops false [
oq 1 (.box 4 (.tmp 0)),
oq 2 (.new [.int .i64 0, .int .i64 0, .slice none 0 0, .slice none 0 0])]) (.seq (.ops true [
oq 3 (.fad 0 (.tmp 1)),
oq 4 (.ld1 (.tmp 3)),
oq 5 (.fad 1 (.tmp 1)),
oq 6 (.ld1 (.tmp 5)),
oq 7 (.fad 2 (.tmp 1)),
oq 8 (.ld1 (.tmp 7)),
⟨some 9, none, true, .call (.func 52) [.tmp 8]⟩,
oq 10 (.fad 3 (.tmp 1)),
oq 11 (.ld1 (.tmp 10)),
⟨some 12, none, true, .call (.func 52) [.tmp 11]⟩,
oq 13 (.bld [.int .i64 0, .int .i64 0, .slice none 0 0, .slice none 0 0] [(0, 1, .tmp 4), (1, 1, .tmp 6), (2, 1, .tmp 9), (3, 1, .tmp 12)]),
⟨none, none, false, .sto 4 (.tmp 2) (.tmp 13)⟩]) .ret)) }
theorem t40 : tabP Try.prog 0 40 = some ic40 := by kernel_rfl
/-- bandplan/terrain.within[int] -/
def ic41 : IFn := { ntmps := 15, results := [.tmp 6], code := (.seq (.ops false [
oq 6 (.mov (.const (.bool false)))]) (.seq (.ops false [
oq 7 (.mov (.tmp 0)),
oq 8 (.mov (.tmp 1)),
oq 9 (.bin .leq (.tmp 7) (.tmp 8)),
oq 10 (.mov (.tmp 9)),
gq 11 10 true (.mov (.tmp 1)),
gq 12 10 true (.mov (.tmp 2)),
gq 13 10 true (.bin .leq (.tmp 11) (.tmp 12)),
oq 14 (.pick (.tmp 10) (.tmp 13) (.const (.bool false))),
oq 6 (.mov (.tmp 14))]) .ret)) }
theorem t41 : tabP Try.prog 0 41 = some ic41 := by kernel_rfl
/-- slices.Repeat[[]int,int] -/
def ic42 : IFn := { ntmps := 48, results := [.tmp 4], code := (.seq (.ops false [
oq 4 (.mov (.const (Value.slice none 0 0)))]) (.seq (.seq (.ops false [
oq 9 (.mov (.tmp 1)),
oq 10 (.bin .lss (.tmp 9) (cq 0))]) (.cond (.tmp 10) (.ops false [
oq 11 (.mki 9 (.const (.string ⟨#[99, 97, 110, 110, 111, 116, 32, 98, 101, 32, 110, 101, 103, 97, 116, 105, 118, 101]⟩))),
⟨none, none, false, .pan (.tmp 11)⟩]) .skip)) (.seq (.ops false [
oq 13 (.mov (.tmp 0)),
oq 14 (.len .sl (.tmp 13)),
oq 15 (.cnv .u64 (.tmp 14)),
oq 16 (.mov (.tmp 1)),
oq 17 (.cnv .u64 (.tmp 16)),
oq 18 (.call (.func 53) [.tmp 15, .tmp 17]),
oq 12 (.mov (.tmp 18)),
oq 19 (.ext (.tmp 12) 0),
oq 20 (.ext (.tmp 12) 1),
oq 5 (.mov (.tmp 19)),
oq 6 (.mov (.tmp 20))]) (.seq (.seq (.ops false [
oq 21 (.mov (.tmp 5)),
oq 22 (.bin .gtr (.tmp 21) (.const (.int .u64 0))),
oq 23 (.mov (.tmp 22)),
gq 24 23 false (.mov (.tmp 6)),
gq 25 23 false (.bin .gtr (.tmp 24) (.const (.int .u64 9223372036854775807))),
oq 26 (.pick (.tmp 23) (.const (.bool true)) (.tmp 25))]) (.cond (.tmp 26) (.ops false [
oq 27 (.mki 9 (.const (.string ⟨#[116, 104, 101, 32, 114, 101, 115, 117, 108, 116, 32, 111, 102, 32, 40, 108, 101, 110, 40, 120, 41, 32, 42, 32, 99, 111, 117, 110, 116, 41, 32, 111, 118, 101, 114, 102, 108, 111, 119, 115]⟩))),
⟨none, none, false, .pan (.tmp 27)⟩]) .skip)) (.seq (.ops false [
oq 28 (.mov (.tmp 6)),
oq 29 (.cnv .i64 (.tmp 28)),
oq 30 (.mks 1 8 [.int .i64 0] (.tmp 29) (.tmp 29)),
oq 7 (.mov (.tmp 30))]) (.seq (.ops false [
oq 31 (.mov (.tmp 7)),
oq 32 (.mov (.tmp 0)),
oq 33 (.cpy 1 (.tmp 31) (.tmp 32)),
oq 8 (.mov (.tmp 33))]) (.seq (.block 0 (.loop (.seq (.seq (.ops false [
oq 34 (.mov (.tmp 8)),
oq 35 (.mov (.tmp 7)),
oq 36 (.len .sl (.tmp 35)),
oq 37 (.bin .lss (.tmp 34) (.tmp 36))]) (.cond (.tmp 37) .skip (.exit 0))) (.block 1 (.ops true [
oq 38 (.mov (.tmp 8)),
oq 39 (.mov (.tmp 7)),
oq 40 (.mov (.tmp 8)),
oq 41 (.slc (.sl 1) (.tmp 39) (some (.tmp 40)) none none),
oq 42 (.mov (.tmp 7)),
oq 43 (.mov (.tmp 8)),
oq 44 (.slc (.sl 1) (.tmp 42) none (some (.tmp 43)) none),
oq 45 (.cpy 1 (.tmp 41) (.tmp 44)),
oq 46 (.bin .add (.tmp 38) (.tmp 45)),
oq 8 (.mov (.tmp 46))]))))) (.seq (.ops false [
oq 47 (.mov (.tmp 7)),
oq 4 (.mov (.tmp 47))]) .ret)))))))) }
theorem t42 : tabP Try.prog 0 42 = some ic42 := by kernel_rfl
/-- bandplan/terrain.all[int] -/
def ic43 : IFn := { ntmps := 11, results := [.tmp 6], code := (.seq (.ops false [
oq 3 (.box 1 (.tmp 0)),
oq 5 (.box 1 (.tmp 2)),
oq 6 (.mov (.const (.bool false)))]) (.seq (.ops false [
oq 7 (.mov (.tmp 1)),
oq 8 (.fun_ (Fn.func 55) [] [.tmp 3, .tmp 5]),
oq 9 (.call (.func 54) [.tmp 7, .tmp 8]),
oq 10 (.una .not (.tmp 9)),
oq 6 (.mov (.tmp 10))]) .ret)) }
theorem t43 : tabP Try.prog 0 43 = some ic43 := by kernel_rfl
/-- bandplan/terrain.index -/
def ic44 : IFn := { ntmps := 13, results := [.tmp 4], code := (.seq (.ops false [
oq 2 (.box 4 (.tmp 0)),
oq 3 (.box 2 (.tmp 1)),
oq 4 (.mov (cq 0))]) (.seq (.ops false [
oq 5 (.fad 1 (.tmp 3)),
oq 6 (.ld1 (.tmp 5)),
oq 7 (.fad 0 (.tmp 2)),
oq 8 (.ld1 (.tmp 7)),
oq 9 (.bin .mul (.tmp 6) (.tmp 8)),
oq 10 (.fad 0 (.tmp 3)),
oq 11 (.ld1 (.tmp 10)),
oq 12 (.bin .add (.tmp 9) (.tmp 11)),
oq 4 (.mov (.tmp 12))]) .ret)) }
theorem t44 : tabP Try.prog 0 44 = some ic44 := by kernel_rfl
/-- bandplan/terrain.abs -/
def ic45 : IFn := { ntmps := 7, results := [.tmp 2], code := (.seq (.ops false [
oq 2 (.mov (cq 0))]) (.seq (.ops false [
oq 3 (.mov (.tmp 0)),
oq 4 (.mov (.tmp 0)),
oq 5 (.una .neg (.tmp 4)),
oq 6 (.mnx true [.tmp 3, .tmp 5]),
oq 2 (.mov (.tmp 6))]) .ret)) }
theorem t45 : tabP Try.prog 0 45 = some ic45 := by kernel_rfl
/-- bandplan/terrain.round -/
def ic46 : IFn := { ntmps := 27, results := [.tmp 8], code := (.seq (.ops false [
oq 8 (.mov (cq 0))]) (.seq (.ops false [
oq 9 (.mov (.tmp 0)),
oq 10 (.mov (.tmp 1)),
oq 11 (.bin .mul (.const (.int .i64 2)) (.tmp 10)),
oq 12 (.mov (.tmp 2)),
oq 13 (.bin .mul (.tmp 11) (.tmp 12)),
oq 14 (.mov (.tmp 3)),
oq 15 (.bin .add (.tmp 13) (.tmp 14)),
oq 16 (.mov (.tmp 3)),
oq 17 (.bin .mul (.const (.int .i64 2)) (.tmp 16)),
oq 18 (.mov (.tmp 3)),
oq 19 (.bin .mul (.tmp 17) (.tmp 18)),
oq 20 (.bin .add (.tmp 15) (.tmp 19)),
oq 21 (.mov (.tmp 3)),
oq 22 (.bin .mul (.const (.int .i64 2)) (.tmp 21)),
oq 23 (.bin .quo (.tmp 20) (.tmp 22)),
oq 24 (.bin .add (.tmp 9) (.tmp 23)),
oq 25 (.mov (.tmp 3)),
oq 26 (.bin .sub (.tmp 24) (.tmp 25)),
oq 8 (.mov (.tmp 26))]) .ret)) }
theorem t46 : tabP Try.prog 0 46 = some ic46 := by kernel_rfl
/-- bandplan/bandplanref10.Span -/
def ic47 : IFn := { ntmps := 44, results := [.tmp 4], code := (.seq (.ops false [
oq 2 (.box 2 (.tmp 0)),
oq 3 (.box 2 (.tmp 1)),
oq 4 (.mov (cq 0))]) (.seq (.ops false [
oq 8 (.fad 0 (.tmp 3)),
oq 9 (.ld1 (.tmp 8)),
oq 10 (.fad 0 (.tmp 2)),
oq 11 (.ld1 (.tmp 10)),
oq 12 (.bin .sub (.tmp 9) (.tmp 11)),
oq 13 (.fad 0 (.tmp 2)),
oq 14 (.ld1 (.tmp 13)),
oq 15 (.fad 0 (.tmp 3)),
oq 16 (.ld1 (.tmp 15)),
oq 17 (.bin .sub (.tmp 14) (.tmp 16)),
oq 18 (.fad 1 (.tmp 3)),
oq 19 (.ld1 (.tmp 18)),
oq 20 (.fad 1 (.tmp 2)),
oq 21 (.ld1 (.tmp 20)),
oq 22 (.bin .sub (.tmp 19) (.tmp 21)),
oq 23 (.fad 1 (.tmp 2)),
oq 24 (.ld1 (.tmp 23)),
oq 25 (.fad 1 (.tmp 3)),
oq 26 (.ld1 (.tmp 25)),
oq 27 (.bin .sub (.tmp 24) (.tmp 26)),
oq 28 (.bsl 4 [.int .i64 0, .int .i64 0, .int .i64 0, .int .i64 0] [(0, 1, .tmp 12), (1, 1, .tmp 17), (2, 1, .tmp 22), (3, 1, .tmp 27)]),
oq 5 (.mov (.tmp 28))]) (.seq (.ops false [
oq 6 (.mov (cq 0))]) (.seq (.seq (.ops false [
oq 7 (.mov (cq 0))]) (.block 0 (.loop (.seq (.seq (.ops false [
oq 29 (.mov (.tmp 7)),
oq 30 (.bin .lss (.tmp 29) (.const (.int .i64 4)))]) (.cond (.tmp 30) .skip (.exit 0))) (.seq (.block 1 (.seq (.ops false [
oq 33 (.mov (.tmp 5)),
oq 34 (.mov (.tmp 7)),
oq 35 (.ixs 1 (.tmp 33) (.tmp 34)),
oq 36 (.ld1 (.tmp 35)),
oq 37 (.mov (.tmp 6)),
oq 38 (.bin .gtr (.tmp 36) (.tmp 37))]) (.cond (.tmp 38) (.ops false [
oq 39 (.mov (.tmp 5)),
oq 40 (.mov (.tmp 7)),
oq 41 (.ixs 1 (.tmp 39) (.tmp 40)),
oq 42 (.ld1 (.tmp 41)),
oq 6 (.mov (.tmp 42))]) .skip))) (.ops false [
oq 31 (.mov (.tmp 7)),
oq 32 (.bin .add (.tmp 31) (cq 1)),
oq 7 (.mov (.tmp 32))])))))) (.seq (.ops false [
oq 43 (.mov (.tmp 6)),
oq 4 (.mov (.tmp 43))]) .ret))))) }
theorem t47 : tabP Try.prog 0 47 = some ic47 := by kernel_rfl
/-- bandplan/bandplanref10.Floor -/
def ic48 : IFn := { ntmps := 16, results := [.tmp 4], code := (.seq (.ops false [
oq 4 (.mov (cq 0))]) (.seq (.ops false [
oq 6 (.mov (.tmp 0)),
oq 7 (.mov (.tmp 1)),
oq 8 (.bin .quo (.tmp 6) (.tmp 7)),
oq 5 (.mov (.tmp 8))]) (.seq (.seq (.ops false [
oq 9 (.mov (.tmp 0)),
oq 10 (.mov (.tmp 1)),
oq 11 (.bin .rem (.tmp 9) (.tmp 10)),
oq 12 (.bin .lss (.tmp 11) (cq 0))]) (.cond (.tmp 12) (.ops false [
oq 13 (.mov (.tmp 5)),
oq 14 (.bin .sub (.tmp 13) (cq 1)),
oq 5 (.mov (.tmp 14))]) .skip)) (.seq (.ops false [
oq 15 (.mov (.tmp 5)),
oq 4 (.mov (.tmp 15))]) .ret)))) }
theorem t48 : tabP Try.prog 0 48 = some ic48 := by kernel_rfl
/-- bandplan/bandplanref10.Between -/
def ic49 : IFn := { ntmps := 25, results := [.tmp 6], code := (.seq (.ops false [
oq 6 (.mov (.const (.bool false)))]) (.seq (.ops false [
oq 7 (.mov (.tmp 0)),
oq 8 (.mov (.tmp 1)),
oq 9 (.bin .geq (.tmp 7) (.tmp 8)),
oq 10 (.mov (.tmp 9)),
gq 11 10 true (.mov (.tmp 0)),
gq 12 10 true (.mov (.tmp 2)),
gq 13 10 true (.bin .leq (.tmp 11) (.tmp 12)),
oq 14 (.pick (.tmp 10) (.tmp 13) (.const (.bool false))),
oq 15 (.mov (.tmp 14)),
gq 16 15 false (.mov (.tmp 0)),
gq 17 15 false (.mov (.tmp 2)),
gq 18 15 false (.bin .geq (.tmp 16) (.tmp 17)),
gq 19 15 false (.mov (.tmp 18)),
gq 20 19 true (.mov (.tmp 0)),
gq 21 19 true (.mov (.tmp 1)),
gq 22 19 true (.bin .leq (.tmp 20) (.tmp 21)),
gq 23 15 false (.pick (.tmp 19) (.tmp 22) (.const (.bool false))),
oq 24 (.pick (.tmp 15) (.const (.bool true)) (.tmp 23)),
oq 6 (.mov (.tmp 24))]) .ret)) }
theorem t49 : tabP Try.prog 0 49 = some ic49 := by kernel_rfl
/-- bandplan/terrain.Equal$1 -/
def ic50 : IFn := { ntmps := 8, results := [.agg 2 2], code := (.seq (.ops false [
oq 1 (.box 4 (.tmp 0)),
oq 2 (.new [.int .i64 0, .int .i64 0])]) (.seq (.ops false [
oq 3 (.fad 0 (.tmp 1)),
oq 4 (.ld1 (.tmp 3)),
oq 5 (.fad 1 (.tmp 1)),
oq 6 (.ld1 (.tmp 5)),
oq 7 (.bld [.int .i64 0, .int .i64 0] [(0, 1, .tmp 4), (1, 1, .tmp 6)]),
⟨none, none, false, .sto 2 (.tmp 2) (.tmp 7)⟩]) .ret)) }
theorem t50 : tabP Try.prog 0 50 = some ic50 := by kernel_rfl
/-- slices.Equal[[]int,int] -/
def ic51 : IFn := { ntmps := 26, results := [.tmp 4], code := (.seq (.ops false [
oq 4 (.mov (.const (.bool false)))]) (.seq (.seq (.ops false [
oq 6 (.mov (.tmp 0)),
oq 7 (.len .sl (.tmp 6)),
oq 8 (.mov (.tmp 1)),
oq 9 (.len .sl (.tmp 8)),
oq 10 (.bin .neq (.tmp 7) (.tmp 9))]) (.cond (.tmp 10) (.seq (.ops false [
oq 4 (.mov (.const (.bool false)))]) .ret) .skip)) (.seq (.seq (.ops false [
oq 11 (.mov (.tmp 0)),
oq 12 (.len .sl (.tmp 11)),
oq 13 (.mov (cq 0))]) (.block 0 (.loop (.seq (.ops false [
oq 14 (.bin .lss (.tmp 13) (.tmp 12))]) (.seq (.cond (.tmp 14) .skip (.exit 0)) (.seq (.block 1 (.seq (.ops false [
oq 15 (.mov (.tmp 13)),
oq 5 (.mov (.tmp 15))]) (.seq (.ops true [
oq 16 (.mov (.tmp 0)),
oq 17 (.mov (.tmp 5)),
oq 18 (.ixs 1 (.tmp 16) (.tmp 17)),
oq 19 (.ld1 (.tmp 18)),
oq 20 (.mov (.tmp 1)),
oq 21 (.mov (.tmp 5)),
oq 22 (.ixs 1 (.tmp 20) (.tmp 21)),
oq 23 (.ld1 (.tmp 22)),
oq 24 (.bin .neq (.tmp 19) (.tmp 23))]) (.cond (.tmp 24) (.seq (.ops false [
oq 4 (.mov (.const (.bool false)))]) .ret) .skip)))) (.ops false [
oq 25 (.bin .add (.tmp 13) (cq 1)),
oq 13 (.mov (.tmp 25))]))))))) (.seq (.ops false [
oq 4 (.mov (.const (.bool true)))]) .ret)))) }
theorem t51 : tabP Try.prog 0 51 = some ic51 := by kernel_rfl
/-- slices.Clone[[]int,int] -/
def ic52 : IFn := { ntmps := 8, results := [.tmp 2], code := (.seq (.ops false [
oq 2 (.mov (.const (Value.slice none 0 0)))]) (.seq (.seq (.ops false [
oq 3 (.mov (.tmp 0)),
oq 4 (.eq .sli false (.tmp 3) (.const (Value.slice none 0 0)))]) (.cond (.tmp 4) (.seq (.ops false [
oq 2 (.mov (.const (Value.slice none 0 0)))]) .ret) .skip)) (.seq (.ops false [
oq 5 (.bsl 0 [] []),
oq 6 (.mov (.tmp 0)),
oq 7 (.app 1 8 (.tmp 5) (.tmp 6)),
oq 2 (.mov (.tmp 7))]) .ret))) }
theorem t52 : tabP Try.prog 0 52 = some ic52 := by kernel_rfl
/-- math/bits.Mul -/
def ic53 : IFn := { ntmps := 30, results := [.tmp 4, .tmp 5], code := (.seq (.ops false [
oq 4 (.mov (.const (.int .u64 0))),
oq 5 (.mov (.const (.int .u64 0)))]) (.seq (.cond (.const (.bool false)) (.seq (.ops false [
oq 11 (.mov (.tmp 0)),
oq 12 (.cnv .u32 (.tmp 11)),
oq 13 (.mov (.tmp 1)),
oq 14 (.cnv .u32 (.tmp 13)),
oq 15 (.call (.func 56) [.tmp 12, .tmp 14]),
oq 10 (.mov (.tmp 15)),
oq 16 (.ext (.tmp 10) 0),
oq 17 (.ext (.tmp 10) 1),
oq 6 (.mov (.tmp 16)),
oq 7 (.mov (.tmp 17))]) (.seq (.ops false [
oq 18 (.mov (.tmp 6)),
oq 19 (.cnv .u64 (.tmp 18)),
oq 20 (.mov (.tmp 7)),
oq 21 (.cnv .u64 (.tmp 20)),
oq 4 (.mov (.tmp 19)),
oq 5 (.mov (.tmp 21))]) .ret)) .skip) (.seq (.ops false [
oq 23 (.mov (.tmp 0)),
oq 24 (.mov (.tmp 1)),
oq 25 (.call (.func 57) [.tmp 23, .tmp 24]),
oq 22 (.mov (.tmp 25)),
oq 26 (.ext (.tmp 22) 0),
oq 27 (.ext (.tmp 22) 1),
oq 8 (.mov (.tmp 26)),
oq 9 (.mov (.tmp 27))]) (.seq (.ops false [
oq 28 (.mov (.tmp 8)),
oq 29 (.mov (.tmp 9)),
oq 4 (.mov (.tmp 28)),
oq 5 (.mov (.tmp 29))]) .ret)))) }
theorem t53 : tabP Try.prog 0 53 = some ic53 := by kernel_rfl
/-- slices.ContainsFunc[[]int,int] -/
def ic54 : IFn := { ntmps := 9, results := [.tmp 4], code := (.seq (.ops false [
oq 4 (.mov (.const (.bool false)))]) (.seq (.ops false [
oq 5 (.mov (.tmp 0)),
oq 6 (.mov (.tmp 1)),
oq 7 (.call (.func 58) [.tmp 5, .tmp 6]),
oq 8 (.bin .geq (.tmp 7) (cq 0)),
oq 4 (.mov (.tmp 8))]) .ret)) }
theorem t54 : tabP Try.prog 0 54 = some ic54 := by kernel_rfl
/-- bandplan/terrain.all[int]$1 -/
def ic55 : IFn := { ntmps := 10, results := [.tmp 4], code := (.seq (.ops false [
oq 4 (.mov (.const (.bool false)))]) (.seq (.ops false [
oq 5 (.ld1 (.tmp 1)),
oq 6 (.mov (.tmp 0)),
oq 7 (.ld1 (.tmp 2)),
oq 8 (.call (.func 41) [.tmp 5, .tmp 6, .tmp 7]),
oq 9 (.una .not (.tmp 8)),
oq 4 (.mov (.tmp 9))]) .ret)) }
theorem t55 : tabP Try.prog 0 55 = some ic55 := by kernel_rfl
/-- math/bits.Mul32 -/
def ic56 : IFn := { ntmps := 17, results := [.tmp 4, .tmp 5], code := (.seq (.ops false [
oq 4 (.mov (.const (.int .u32 0))),
oq 5 (.mov (.const (.int .u32 0)))]) (.seq (.ops false [
oq 7 (.mov (.tmp 0)),
oq 8 (.cnv .u64 (.tmp 7)),
oq 9 (.mov (.tmp 1)),
oq 10 (.cnv .u64 (.tmp 9)),
oq 11 (.bin .mul (.tmp 8) (.tmp 10)),
oq 6 (.mov (.tmp 11))]) (.seq (.ops false [
oq 12 (.mov (.tmp 6)),
oq 13 (.bin .shr (.tmp 12) (.const (.int .u64 32))),
oq 14 (.cnv .u32 (.tmp 13)),
oq 15 (.mov (.tmp 6)),
oq 16 (.cnv .u32 (.tmp 15)),
oq 4 (.mov (.tmp 14)),
oq 5 (.mov (.tmp 16))]) .ret))) }
theorem t56 : tabP Try.prog 0 56 = some ic56 := by kernel_rfl
/-- math/bits.Mul64 -/
def ic57 : IFn := { ntmps := 51, results := [.tmp 4, .tmp 5], code := (.seq (.ops false [
oq 4 (.mov (.const (.int .u64 0))),
oq 5 (.mov (.const (.int .u64 0)))]) (.seq (.ops false [
oq 14 (.mov (.tmp 0)),
oq 15 (.bin .and (.tmp 14) (.const (.int .u64 4294967295))),
oq 6 (.mov (.tmp 15))]) (.seq (.ops false [
oq 16 (.mov (.tmp 0)),
oq 17 (.bin .shr (.tmp 16) (.const (.int .u64 32))),
oq 7 (.mov (.tmp 17))]) (.seq (.ops false [
oq 18 (.mov (.tmp 1)),
oq 19 (.bin .and (.tmp 18) (.const (.int .u64 4294967295))),
oq 8 (.mov (.tmp 19))]) (.seq (.ops false [
oq 20 (.mov (.tmp 1)),
oq 21 (.bin .shr (.tmp 20) (.const (.int .u64 32))),
oq 9 (.mov (.tmp 21))]) (.seq (.ops false [
oq 22 (.mov (.tmp 6)),
oq 23 (.mov (.tmp 8)),
oq 24 (.bin .mul (.tmp 22) (.tmp 23)),
oq 10 (.mov (.tmp 24))]) (.seq (.ops false [
oq 25 (.mov (.tmp 7)),
oq 26 (.mov (.tmp 8)),
oq 27 (.bin .mul (.tmp 25) (.tmp 26)),
oq 28 (.mov (.tmp 10)),
oq 29 (.bin .shr (.tmp 28) (.const (.int .u64 32))),
oq 30 (.bin .add (.tmp 27) (.tmp 29)),
oq 11 (.mov (.tmp 30))]) (.seq (.ops false [
oq 31 (.mov (.tmp 11)),
oq 32 (.bin .and (.tmp 31) (.const (.int .u64 4294967295))),
oq 12 (.mov (.tmp 32))]) (.seq (.ops false [
oq 33 (.mov (.tmp 11)),
oq 34 (.bin .shr (.tmp 33) (.const (.int .u64 32))),
oq 13 (.mov (.tmp 34))]) (.seq (.ops false [
oq 35 (.mov (.tmp 12)),
oq 36 (.mov (.tmp 6)),
oq 37 (.mov (.tmp 9)),
oq 38 (.bin .mul (.tmp 36) (.tmp 37)),
oq 39 (.bin .add (.tmp 35) (.tmp 38)),
oq 12 (.mov (.tmp 39))]) (.seq (.ops false [
oq 40 (.mov (.tmp 7)),
oq 41 (.mov (.tmp 9)),
oq 42 (.bin .mul (.tmp 40) (.tmp 41)),
oq 43 (.mov (.tmp 13)),
oq 44 (.bin .add (.tmp 42) (.tmp 43)),
oq 45 (.mov (.tmp 12)),
oq 46 (.bin .shr (.tmp 45) (.const (.int .u64 32))),
oq 47 (.bin .add (.tmp 44) (.tmp 46)),
oq 4 (.mov (.tmp 47))]) (.seq (.ops false [
oq 48 (.mov (.tmp 0)),
oq 49 (.mov (.tmp 1)),
oq 50 (.bin .mul (.tmp 48) (.tmp 49)),
oq 5 (.mov (.tmp 50))]) .ret)))))))))))) }
theorem t57 : tabP Try.prog 0 57 = some ic57 := by kernel_rfl
/-- slices.IndexFunc[[]int,int] -/
def ic58 : IFn := { ntmps := 19, results := [.tmp 4], code := (.seq (.ops false [
oq 4 (.mov (cq 0))]) (.seq (.seq (.ops false [
oq 6 (.mov (.tmp 0)),
oq 7 (.len .sl (.tmp 6)),
oq 8 (.mov (cq 0))]) (.block 0 (.loop (.seq (.ops false [
oq 9 (.bin .lss (.tmp 8) (.tmp 7))]) (.seq (.cond (.tmp 9) .skip (.exit 0)) (.seq (.block 1 (.seq (.ops false [
oq 10 (.mov (.tmp 8)),
oq 5 (.mov (.tmp 10))]) (.seq (.ops false [
oq 11 (.mov (.tmp 1)),
oq 12 (.mov (.tmp 0)),
oq 13 (.mov (.tmp 5)),
oq 14 (.ixs 1 (.tmp 12) (.tmp 13)),
oq 15 (.ld1 (.tmp 14)),
oq 16 (.call (.tmp 11) [.tmp 15])]) (.cond (.tmp 16) (.seq (.ops false [
oq 17 (.mov (.tmp 5)),
oq 4 (.mov (.tmp 17))]) .ret) .skip)))) (.ops false [
oq 18 (.bin .add (.tmp 8) (cq 1)),
oq 8 (.mov (.tmp 18))]))))))) (.seq (.ops false [
oq 4 (.mov (.const (.int .i64 (-1))))]) .ret))) }
theorem t58 : tabP Try.prog 0 58 = some ic58 := by kernel_rfl
def full : FuncId → Option IFn
  | 3 => some ic3
  | 4 => some ic4
  | 5 => some ic5
  | 6 => some ic6
  | 7 => some ic7
  | 8 => some ic8
  | 9 => some ic9
  | 10 => some ic10
  | 11 => some ic11
  | 12 => some ic12
  | 13 => some ic13
  | 14 => some ic14
  | 15 => some ic15
  | 16 => some ic16
  | 17 => some ic17
  | 18 => some ic18
  | 19 => some ic19
  | 20 => some ic20
  | 21 => some ic21
  | 22 => some ic22
  | 23 => some ic23
  | 24 => some ic24
  | 25 => some ic25
  | 26 => some ic26
  | 27 => some ic27
  | 28 => some ic28
  | 29 => some ic29
  | 30 => some ic30
  | 31 => some ic31
  | 32 => some ic32
  | 33 => some ic33
  | 34 => some ic34
  | 35 => some ic35
  | 36 => some ic36
  | 37 => some ic37
  | 38 => some ic38
  | 39 => some ic39
  | 40 => some ic40
  | 41 => some ic41
  | 42 => some ic42
  | 43 => some ic43
  | 44 => some ic44
  | 45 => some ic45
  | 46 => some ic46
  | 47 => some ic47
  | 48 => some ic48
  | 49 => some ic49
  | 50 => some ic50
  | 51 => some ic51
  | 52 => some ic52
  | 53 => some ic53
  | 54 => some ic54
  | 55 => some ic55
  | 56 => some ic56
  | 57 => some ic57
  | 58 => some ic58
  | _ => none
def itab : FuncId → Option IFn
  | 3 => some ic3
  | 4 => some ic4
  | 5 => some ic5
  | 6 => some ic6
  | 7 => some ic7
  | 8 => some ic8
  | 9 => some ic9
  | 10 => some ic10
  | 11 => some ic11
  | 12 => some ic12
  | 14 => some ic14
  | 15 => some ic15
  | 16 => some ic16
  | 17 => some ic17
  | 18 => some ic18
  | 19 => some ic19
  | 20 => some ic20
  | 21 => some ic21
  | 22 => some ic22
  | 23 => some ic23
  | 24 => some ic24
  | 25 => some ic25
  | 26 => some ic26
  | 27 => some ic27
  | 28 => some ic28
  | 29 => some ic29
  | 30 => some ic30
  | 31 => some ic31
  | 32 => some ic32
  | 33 => some ic33
  | 34 => some ic34
  | 35 => some ic35
  | 36 => some ic36
  | 37 => some ic37
  | 38 => some ic38
  | 39 => some ic39
  | 40 => some ic40
  | 41 => some ic41
  | 42 => some ic42
  | 43 => some ic43
  | 44 => some ic44
  | 45 => some ic45
  | 46 => some ic46
  | 47 => some ic47
  | 48 => some ic48
  | 49 => some ic49
  | 50 => some ic50
  | 51 => some ic51
  | 52 => some ic52
  | 53 => some ic53
  | 54 => some ic54
  | 55 => some ic55
  | 56 => some ic56
  | 57 => some ic57
  | 58 => some ic58
  | _ => none
theorem fullOk (F : FuncId) (fn : IFn) (h : full F = some fn) : tabP Try.prog 0 F = some fn := by
  unfold full at h
  split at h
  · rw [← h]; exact t3
  · rw [← h]; exact t4
  · rw [← h]; exact t5
  · rw [← h]; exact t6
  · rw [← h]; exact t7
  · rw [← h]; exact t8
  · rw [← h]; exact t9
  · rw [← h]; exact t10
  · rw [← h]; exact t11
  · rw [← h]; exact t12
  · rw [← h]; exact t13
  · rw [← h]; exact t14
  · rw [← h]; exact t15
  · rw [← h]; exact t16
  · rw [← h]; exact t17
  · rw [← h]; exact t18
  · rw [← h]; exact t19
  · rw [← h]; exact t20
  · rw [← h]; exact t21
  · rw [← h]; exact t22
  · rw [← h]; exact t23
  · rw [← h]; exact t24
  · rw [← h]; exact t25
  · rw [← h]; exact t26
  · rw [← h]; exact t27
  · rw [← h]; exact t28
  · rw [← h]; exact t29
  · rw [← h]; exact t30
  · rw [← h]; exact t31
  · rw [← h]; exact t32
  · rw [← h]; exact t33
  · rw [← h]; exact t34
  · rw [← h]; exact t35
  · rw [← h]; exact t36
  · rw [← h]; exact t37
  · rw [← h]; exact t38
  · rw [← h]; exact t39
  · rw [← h]; exact t40
  · rw [← h]; exact t41
  · rw [← h]; exact t42
  · rw [← h]; exact t43
  · rw [← h]; exact t44
  · rw [← h]; exact t45
  · rw [← h]; exact t46
  · rw [← h]; exact t47
  · rw [← h]; exact t48
  · rw [← h]; exact t49
  · rw [← h]; exact t50
  · rw [← h]; exact t51
  · rw [← h]; exact t52
  · rw [← h]; exact t53
  · rw [← h]; exact t54
  · rw [← h]; exact t55
  · rw [← h]; exact t56
  · rw [← h]; exact t57
  · rw [← h]; exact t58
  · cases h
theorem itabOk (F : FuncId) (fn : IFn) (h : itab F = some fn) : tabP Try.prog 0 F = some fn := by
  unfold itab at h
  split at h
  · rw [← h]; exact t3
  · rw [← h]; exact t4
  · rw [← h]; exact t5
  · rw [← h]; exact t6
  · rw [← h]; exact t7
  · rw [← h]; exact t8
  · rw [← h]; exact t9
  · rw [← h]; exact t10
  · rw [← h]; exact t11
  · rw [← h]; exact t12
  · rw [← h]; exact t14
  · rw [← h]; exact t15
  · rw [← h]; exact t16
  · rw [← h]; exact t17
  · rw [← h]; exact t18
  · rw [← h]; exact t19
  · rw [← h]; exact t20
  · rw [← h]; exact t21
  · rw [← h]; exact t22
  · rw [← h]; exact t23
  · rw [← h]; exact t24
  · rw [← h]; exact t25
  · rw [← h]; exact t26
  · rw [← h]; exact t27
  · rw [← h]; exact t28
  · rw [← h]; exact t29
  · rw [← h]; exact t30
  · rw [← h]; exact t31
  · rw [← h]; exact t32
  · rw [← h]; exact t33
  · rw [← h]; exact t34
  · rw [← h]; exact t35
  · rw [← h]; exact t36
  · rw [← h]; exact t37
  · rw [← h]; exact t38
  · rw [← h]; exact t39
  · rw [← h]; exact t40
  · rw [← h]; exact t41
  · rw [← h]; exact t42
  · rw [← h]; exact t43
  · rw [← h]; exact t44
  · rw [← h]; exact t45
  · rw [← h]; exact t46
  · rw [← h]; exact t47
  · rw [← h]; exact t48
  · rw [← h]; exact t49
  · rw [← h]; exact t50
  · rw [← h]; exact t51
  · rw [← h]; exact t52
  · rw [← h]; exact t53
  · rw [← h]; exact t54
  · rw [← h]; exact t55
  · rw [← h]; exact t56
  · rw [← h]; exact t57
  · rw [← h]; exact t58
  · cases h
theorem mixed : Try.prog.follows .mixedOrders = true := by kernel_rfl
end Go.Proofs.Ythlhcdldighffaa.Tab
