/- The functions that the law reaches, as instructions of the ideal machine; and the proof that they are what the given program compiles to. -/
import Derived.Test.YtpffdendgnkpoaaChecked
import Derived.Test.YtpffdendgnkpoaaImG
import Derived.KernelRfl
namespace Go.Proofs.Ytpffdendgnkpoaa.Tab
open Go Go.IM
set_option maxRecDepth 100000
abbrev oq (d : Nat) (o : IOp) : IOper := ⟨some d, none, false, o⟩
abbrev gq (d k : Nat) (b : Bool) (o : IOp) : IOper := ⟨some d, some (k, b), false, o⟩
abbrev cq (n : Int) : Operand := .const (.int .i64 n)
/-- bandplan/bandplanlaw34.DemandValid -/
def ic3 : IFn := { ntmps := 20, results := [.tmp 4], code := (.seq (.ops false [
oq 4 (.mov (.const (.bool false)))]) (.seq (.seq (.ops false [
oq 5 (.mov (.tmp 0)),
oq 6 (.mov (.tmp 1)),
oq 7 (.call (.func 9) [.tmp 5, .tmp 6, .const (Value.slice none 0 0)]),
oq 8 (.una .not (.tmp 7))]) (.cond (.tmp 8) (.seq (.ops false [
oq 9 (.call (.func 10) []),
oq 4 (.mov (.tmp 9))]) .ret) .skip)) (.seq (.ops false [
oq 10 (.mov (.tmp 0)),
oq 11 (.mov (.tmp 1)),
oq 12 (.call (.func 11) [.tmp 10, .tmp 11]),
oq 13 (.mov (.tmp 0)),
oq 14 (.mov (.tmp 1)),
oq 15 (.call (.func 12) [.tmp 13, .tmp 14]),
oq 16 (.eq .bool false (.tmp 12) (.tmp 15)),
oq 17 (.mov (.tmp 16)),
gq 18 17 true (.call (.func 10) []),
oq 19 (.pick (.tmp 17) (.tmp 18) (.const (.bool false))),
oq 4 (.mov (.tmp 19))]) .ret))) }
theorem t3 : tabP Try.prog 0 3 = some ic3 := by kernel_rfl
/-- bandplan/bandplanlaw34.DemandUnits -/
def ic4 : IFn := { ntmps := 68, results := [.tmp 6], code := (.seq (.ops false [
oq 6 (.mov (.const (.bool false)))]) (.seq (.seq (.ops false [
oq 15 (.mov (.tmp 0)),
oq 16 (.mov (.tmp 1)),
oq 17 (.mov (.tmp 2)),
oq 18 (.call (.func 9) [.tmp 15, .tmp 16, .tmp 17]),
oq 19 (.una .not (.tmp 18))]) (.cond (.tmp 19) (.seq (.ops false [
oq 20 (.call (.func 10) []),
oq 6 (.mov (.tmp 20))]) .ret) .skip)) (.seq (.ops false [
oq 22 (.mov (.tmp 0)),
oq 23 (.mov (.tmp 2)),
oq 24 (.call (.func 13) [.tmp 22, .tmp 23]),
oq 21 (.mov (.tmp 24)),
oq 25 (.ext (.tmp 21) 0),
oq 26 (.ext (.tmp 21) 1),
oq 7 (.mov (.tmp 25)),
oq 8 (.mov (.tmp 26))]) (.seq (.ops false [
oq 28 (.mov (.tmp 0)),
oq 29 (.mov (.tmp 2)),
oq 30 (.call (.func 14) [.tmp 28, .tmp 29]),
oq 27 (.mov (.tmp 30)),
oq 31 (.ext (.tmp 27) 0),
oq 32 (.ext (.tmp 27) 1),
oq 9 (.mov (.tmp 31)),
oq 10 (.mov (.tmp 32))]) (.seq (.ops false [
oq 34 (.mov (.tmp 0)),
oq 35 (.mov (.tmp 1)),
oq 36 (.mov (.tmp 2)),
oq 37 (.call (.func 15) [.tmp 34, .tmp 35, .tmp 36]),
oq 33 (.mov (.tmp 37)),
oq 38 (.ext (.tmp 33) 0),
oq 39 (.ext (.tmp 33) 1),
oq 11 (.mov (.tmp 38)),
oq 12 (.mov (.tmp 39))]) (.seq (.ops false [
oq 41 (.mov (.tmp 0)),
oq 42 (.mov (.tmp 1)),
oq 43 (.mov (.tmp 2)),
oq 44 (.call (.func 16) [.tmp 41, .tmp 42, .tmp 43]),
oq 40 (.mov (.tmp 44)),
oq 45 (.ext (.tmp 40) 0),
oq 46 (.ext (.tmp 40) 1),
oq 13 (.mov (.tmp 45)),
oq 14 (.mov (.tmp 46))]) (.seq (.ops false [
oq 47 (.mov (.tmp 7)),
oq 48 (.mov (.tmp 9)),
oq 49 (.bin .eql (.tmp 47) (.tmp 48)),
oq 50 (.mov (.tmp 49)),
gq 51 50 true (.mov (.tmp 8)),
gq 52 50 true (.mov (.tmp 10)),
gq 53 50 true (.bin .eql (.tmp 51) (.tmp 52)),
oq 54 (.pick (.tmp 50) (.tmp 53) (.const (.bool false))),
oq 55 (.mov (.tmp 54)),
gq 56 55 true (.mov (.tmp 11)),
gq 57 55 true (.mov (.tmp 13)),
gq 58 55 true (.bin .eql (.tmp 56) (.tmp 57)),
oq 59 (.pick (.tmp 55) (.tmp 58) (.const (.bool false))),
oq 60 (.mov (.tmp 59)),
gq 61 60 true (.mov (.tmp 12)),
gq 62 60 true (.mov (.tmp 14)),
gq 63 60 true (.bin .eql (.tmp 61) (.tmp 62)),
oq 64 (.pick (.tmp 60) (.tmp 63) (.const (.bool false))),
oq 65 (.mov (.tmp 64)),
gq 66 65 true (.call (.func 10) []),
oq 67 (.pick (.tmp 65) (.tmp 66) (.const (.bool false))),
oq 6 (.mov (.tmp 67))]) .ret))))))) }
theorem t4 : tabP Try.prog 0 4 = some ic4 := by kernel_rfl
/-- bandplan/bandplanlaw34.DemandExcess -/
def ic5 : IFn := { ntmps := 37, results := [.tmp 4], code := (.seq (.ops false [
oq 4 (.mov (.const (.bool false)))]) (.seq (.seq (.ops false [
oq 9 (.mov (.tmp 0)),
oq 10 (.mov (.tmp 1)),
oq 11 (.call (.func 9) [.tmp 9, .tmp 10, .const (Value.slice none 0 0)]),
oq 12 (.una .not (.tmp 11))]) (.cond (.tmp 12) (.seq (.ops false [
oq 13 (.call (.func 10) []),
oq 4 (.mov (.tmp 13))]) .ret) .skip)) (.seq (.ops false [
oq 15 (.mov (.tmp 0)),
oq 16 (.mov (.tmp 1)),
oq 17 (.call (.func 17) [.tmp 15, .tmp 16]),
oq 14 (.mov (.tmp 17)),
oq 18 (.ext (.tmp 14) 0),
oq 19 (.ext (.tmp 14) 1),
oq 5 (.mov (.tmp 18)),
oq 6 (.mov (.tmp 19))]) (.seq (.ops false [
oq 21 (.mov (.tmp 0)),
oq 22 (.mov (.tmp 1)),
oq 23 (.call (.func 18) [.tmp 21, .tmp 22]),
oq 20 (.mov (.tmp 23)),
oq 24 (.ext (.tmp 20) 0),
oq 25 (.ext (.tmp 20) 1),
oq 7 (.mov (.tmp 24)),
oq 8 (.mov (.tmp 25))]) (.seq (.ops false [
oq 26 (.mov (.tmp 5)),
oq 27 (.mov (.tmp 7)),
oq 28 (.call (.func 19) [.tmp 26, .tmp 27]),
oq 29 (.mov (.tmp 28)),
gq 30 29 true (.mov (.tmp 6)),
gq 31 29 true (.mov (.tmp 8)),
gq 32 29 true (.bin .eql (.tmp 30) (.tmp 31)),
oq 33 (.pick (.tmp 29) (.tmp 32) (.const (.bool false))),
oq 34 (.mov (.tmp 33)),
gq 35 34 true (.call (.func 10) []),
oq 36 (.pick (.tmp 34) (.tmp 35) (.const (.bool false))),
oq 4 (.mov (.tmp 36))]) .ret))))) }
theorem t5 : tabP Try.prog 0 5 = some ic5 := by kernel_rfl
/-- bandplan/bandplanlaw34.DemandChange -/
def ic6 : IFn := { ntmps := 53, results := [.tmp 8], code := (.seq (.ops false [
oq 8 (.mov (.const (.bool false)))]) (.seq (.seq (.ops false [
oq 14 (.mov (.tmp 0)),
oq 15 (.mov (.tmp 1)),
oq 16 (.call (.func 9) [.tmp 14, .tmp 15, .const (Value.slice none 0 0)]),
oq 17 (.una .not (.tmp 16))]) (.cond (.tmp 17) (.seq (.ops false [
oq 18 (.call (.func 10) []),
oq 8 (.mov (.tmp 18))]) .ret) .skip)) (.seq (.ops false [
oq 19 (.mov (.tmp 1)),
oq 20 (.app 1 8 (.const (Value.slice none 0 0)) (.tmp 19)),
oq 9 (.mov (.tmp 20))]) (.seq (.ops false [
oq 22 (.mov (.tmp 0)),
oq 23 (.mov (.tmp 9)),
oq 24 (.mov (.tmp 2)),
oq 25 (.mov (.tmp 3)),
oq 26 (.call (.func 20) [.tmp 22, .tmp 23, .tmp 24, .tmp 25]),
oq 21 (.mov (.tmp 26)),
oq 27 (.ext (.tmp 21) 0),
oq 28 (.ext (.tmp 21) 1),
oq 10 (.mov (.tmp 27)),
oq 11 (.mov (.tmp 28))]) (.seq (.ops false [
oq 30 (.mov (.tmp 0)),
oq 31 (.mov (.tmp 1)),
oq 32 (.mov (.tmp 2)),
oq 33 (.mov (.tmp 3)),
oq 34 (.call (.func 21) [.tmp 30, .tmp 31, .tmp 32, .tmp 33]),
oq 29 (.mov (.tmp 34)),
oq 35 (.ext (.tmp 29) 0),
oq 36 (.ext (.tmp 29) 1),
oq 12 (.mov (.tmp 35)),
oq 13 (.mov (.tmp 36))]) (.seq (.ops false [
oq 37 (.mov (.tmp 10)),
oq 38 (.mov (.tmp 12)),
oq 39 (.call (.func 19) [.tmp 37, .tmp 38]),
oq 40 (.mov (.tmp 39)),
gq 41 40 true (.mov (.tmp 11)),
gq 42 40 true (.mov (.tmp 13)),
gq 43 40 true (.bin .eql (.tmp 41) (.tmp 42)),
oq 44 (.pick (.tmp 40) (.tmp 43) (.const (.bool false))),
oq 45 (.mov (.tmp 44)),
gq 46 45 true (.mov (.tmp 9)),
gq 47 45 true (.mov (.tmp 1)),
gq 48 45 true (.call (.func 19) [.tmp 46, .tmp 47]),
oq 49 (.pick (.tmp 45) (.tmp 48) (.const (.bool false))),
oq 50 (.mov (.tmp 49)),
gq 51 50 true (.call (.func 10) []),
oq 52 (.pick (.tmp 50) (.tmp 51) (.const (.bool false))),
oq 8 (.mov (.tmp 52))]) .ret)))))) }
theorem t6 : tabP Try.prog 0 6 = some ic6 := by kernel_rfl
/-- bandplan/bandplanlaw34.DemandCarry -/
def ic7 : IFn := { ntmps := 46, results := [.tmp 6], code := (.seq (.ops false [
oq 6 (.mov (.const (.bool false)))]) (.seq (.seq (.ops false [
oq 11 (.mov (.tmp 0)),
oq 12 (.mov (.tmp 2)),
oq 13 (.call (.func 9) [.tmp 11, .tmp 12, .const (Value.slice none 0 0)]),
oq 14 (.una .not (.tmp 13)),
oq 15 (.mov (.tmp 14)),
gq 16 15 false (.mov (.tmp 1)),
gq 17 15 false (.len .sl (.tmp 16)),
gq 18 15 false (.bin .gtr (.tmp 17) (.const (.int .i64 140))),
oq 19 (.pick (.tmp 15) (.const (.bool true)) (.tmp 18))]) (.cond (.tmp 19) (.seq (.ops false [
oq 20 (.call (.func 10) []),
oq 6 (.mov (.tmp 20))]) .ret) .skip)) (.seq (.ops false [
oq 22 (.mov (.tmp 0)),
oq 23 (.mov (.tmp 1)),
oq 24 (.mov (.tmp 2)),
oq 25 (.call (.func 22) [.tmp 22, .tmp 23, .tmp 24]),
oq 21 (.mov (.tmp 25)),
oq 26 (.ext (.tmp 21) 0),
oq 27 (.ext (.tmp 21) 1),
oq 7 (.mov (.tmp 26)),
oq 8 (.mov (.tmp 27))]) (.seq (.ops false [
oq 29 (.mov (.tmp 0)),
oq 30 (.mov (.tmp 1)),
oq 31 (.mov (.tmp 2)),
oq 32 (.call (.func 23) [.tmp 29, .tmp 30, .tmp 31]),
oq 28 (.mov (.tmp 32)),
oq 33 (.ext (.tmp 28) 0),
oq 34 (.ext (.tmp 28) 1),
oq 9 (.mov (.tmp 33)),
oq 10 (.mov (.tmp 34))]) (.seq (.ops false [
oq 35 (.mov (.tmp 7)),
oq 36 (.mov (.tmp 9)),
oq 37 (.call (.func 19) [.tmp 35, .tmp 36]),
oq 38 (.mov (.tmp 37)),
gq 39 38 true (.mov (.tmp 8)),
gq 40 38 true (.mov (.tmp 10)),
gq 41 38 true (.bin .eql (.tmp 39) (.tmp 40)),
oq 42 (.pick (.tmp 38) (.tmp 41) (.const (.bool false))),
oq 43 (.mov (.tmp 42)),
gq 44 43 true (.call (.func 10) []),
oq 45 (.pick (.tmp 43) (.tmp 44) (.const (.bool false))),
oq 6 (.mov (.tmp 45))]) .ret))))) }
theorem t7 : tabP Try.prog 0 7 = some ic7 := by kernel_rfl
/-- bandplan/bandplanlaw34.DemandHolds -/
def ic8 : IFn := { ntmps := 181, results := [.tmp 10], code := (.seq (.ops false [
oq 10 (.mov (.const (.bool false)))]) (.seq (.seq (.ops false [
oq 25 (.mov (.tmp 0)),
oq 26 (.len .sl (.tmp 25)),
oq 27 (.bin .gtr (.tmp 26) (.const (.int .i64 40))),
oq 28 (.mov (.tmp 27)),
gq 29 28 false (.mov (.tmp 1)),
gq 30 28 false (.len .sl (.tmp 29)),
gq 31 28 false (.bin .gtr (.tmp 30) (.const (.int .i64 40))),
oq 32 (.pick (.tmp 28) (.const (.bool true)) (.tmp 31)),
oq 33 (.mov (.tmp 32)),
gq 34 33 false (.mov (.tmp 0)),
gq 35 33 false (.mov (.tmp 2)),
gq 36 33 false (.call (.func 11) [.tmp 34, .tmp 35]),
gq 37 33 false (.una .not (.tmp 36)),
oq 38 (.pick (.tmp 33) (.const (.bool true)) (.tmp 37))]) (.cond (.tmp 38) (.seq (.ops false [
oq 39 (.call (.func 10) []),
oq 10 (.mov (.tmp 39))]) .ret) .skip)) (.seq (.ops false [
oq 41 (.mov (.tmp 0)),
oq 42 (.mov (.tmp 2)),
oq 43 (.call (.func 13) [.tmp 41, .tmp 42]),
oq 40 (.mov (.tmp 43)),
oq 44 (.ext (.tmp 40) 0),
oq 45 (.ext (.tmp 40) 1),
oq 11 (.mov (.tmp 44)),
oq 12 (.mov (.tmp 45))]) (.seq (.ops false [
oq 47 (.mov (.tmp 0)),
oq 48 (.mov (.tmp 0)),
oq 49 (.mov (.tmp 2)),
oq 50 (.call (.func 22) [.tmp 47, .tmp 48, .tmp 49]),
oq 46 (.mov (.tmp 50)),
oq 51 (.ext (.tmp 46) 0),
oq 52 (.ext (.tmp 46) 1),
oq 13 (.mov (.tmp 51)),
oq 14 (.mov (.tmp 52))]) (.seq (.seq (.ops false [
oq 53 (.mov (.tmp 2)),
oq 54 (.len .sl (.tmp 53)),
oq 55 (.mov (.tmp 0)),
oq 56 (.len .sl (.tmp 55)),
oq 57 (.bin .neq (.tmp 54) (.tmp 56)),
oq 58 (.mov (.tmp 57)),
gq 59 58 false (.mov (.tmp 12)),
gq 60 58 false (.bin .neq (.tmp 59) (cq 0)),
oq 61 (.pick (.tmp 58) (.const (.bool true)) (.tmp 60)),
oq 62 (.mov (.tmp 61)),
gq 63 62 false (.mov (.tmp 14)),
gq 64 62 false (.bin .neq (.tmp 63) (cq 0)),
oq 65 (.pick (.tmp 62) (.const (.bool true)) (.tmp 64)),
oq 66 (.mov (.tmp 65)),
gq 67 66 false (.mov (.tmp 13)),
gq 68 66 false (.mov (.tmp 2)),
gq 69 66 false (.call (.func 19) [.tmp 67, .tmp 68]),
gq 70 66 false (.una .not (.tmp 69)),
oq 71 (.pick (.tmp 66) (.const (.bool true)) (.tmp 70))]) (.cond (.tmp 71) (.seq (.ops false [
oq 10 (.mov (.const (.bool false)))]) .ret) .skip)) (.seq (.ops false [
oq 73 (.mov (.tmp 0)),
oq 74 (.mov (.tmp 1)),
oq 75 (.mov (.tmp 2)),
oq 76 (.call (.func 22) [.tmp 73, .tmp 74, .tmp 75]),
oq 72 (.mov (.tmp 76)),
oq 77 (.ext (.tmp 72) 0),
oq 78 (.ext (.tmp 72) 1),
oq 15 (.mov (.tmp 77)),
oq 16 (.mov (.tmp 78))]) (.seq (.seq (.ops false [
oq 79 (.mov (.tmp 16)),
oq 80 (.bin .eql (.tmp 79) (cq 0))]) (.cond (.tmp 80) (.seq (.ops false [
oq 82 (.mov (.tmp 1)),
oq 83 (.mov (.tmp 15)),
oq 84 (.call (.func 13) [.tmp 82, .tmp 83]),
oq 81 (.mov (.tmp 84)),
oq 85 (.ext (.tmp 81) 0),
oq 86 (.ext (.tmp 81) 1),
oq 17 (.mov (.tmp 85)),
oq 18 (.mov (.tmp 86))]) (.seq (.ops false [
oq 87 (.mov (.tmp 1)),
oq 88 (.mov (.tmp 15)),
oq 89 (.call (.func 11) [.tmp 87, .tmp 88]),
oq 90 (.una .not (.tmp 89)),
oq 91 (.mov (.tmp 90)),
gq 92 91 false (.mov (.tmp 18)),
gq 93 91 false (.bin .neq (.tmp 92) (cq 0)),
oq 94 (.pick (.tmp 91) (.const (.bool true)) (.tmp 93)),
oq 95 (.mov (.tmp 94)),
gq 96 95 false (.mov (.tmp 0)),
gq 97 95 false (.mov (.tmp 1)),
gq 98 95 false (.call (.func 24) [.tmp 96, .tmp 97]),
gq 99 95 false (.mov (.tmp 98)),
gq 100 99 true (.mov (.tmp 17)),
gq 101 99 true (.mov (.tmp 11)),
gq 102 99 true (.bin .gtr (.tmp 100) (.tmp 101)),
gq 103 95 false (.pick (.tmp 99) (.tmp 102) (.const (.bool false))),
oq 104 (.pick (.tmp 95) (.const (.bool true)) (.tmp 103))]) (.cond (.tmp 104) (.seq (.ops false [
oq 10 (.mov (.const (.bool false)))]) .ret) .skip))) .skip)) (.seq (.seq (.ops false [
oq 105 (.mov (.tmp 3)),
oq 106 (.bin .lss (.tmp 105) (cq 0)),
oq 107 (.mov (.tmp 106)),
gq 108 107 false (.mov (.tmp 3)),
gq 109 107 false (.mov (.tmp 0)),
gq 110 107 false (.len .sl (.tmp 109)),
gq 111 107 false (.bin .geq (.tmp 108) (.tmp 110)),
oq 112 (.pick (.tmp 107) (.const (.bool true)) (.tmp 111))]) (.cond (.tmp 112) (.seq (.ops false [
oq 113 (.call (.func 10) []),
oq 10 (.mov (.tmp 113))]) .ret) .skip)) (.seq (.ops false [
oq 115 (.mov (.tmp 0)),
oq 116 (.mov (.tmp 2)),
oq 117 (.mov (.tmp 3)),
oq 118 (.mov (.tmp 4)),
oq 119 (.call (.func 20) [.tmp 115, .tmp 116, .tmp 117, .tmp 118]),
oq 114 (.mov (.tmp 119)),
oq 120 (.ext (.tmp 114) 0),
oq 121 (.ext (.tmp 114) 1),
oq 19 (.mov (.tmp 120)),
oq 20 (.mov (.tmp 121))]) (.seq (.seq (.ops false [
oq 122 (.mov (.tmp 20)),
oq 123 (.bin .neq (.tmp 122) (cq 0))]) (.cond (.tmp 123) (.seq (.ops false [
oq 124 (.mov (.tmp 20)),
oq 125 (.bin .eql (.tmp 124) (.const (.int .i64 3))),
oq 126 (.mov (.tmp 125)),
gq 127 126 true (.mov (.tmp 19)),
gq 128 126 true (.len .sl (.tmp 127)),
gq 129 126 true (.bin .eql (.tmp 128) (cq 0)),
oq 130 (.pick (.tmp 126) (.tmp 129) (.const (.bool false))),
oq 131 (.mov (.tmp 130)),
gq 132 131 true (.call (.func 10) []),
oq 133 (.pick (.tmp 131) (.tmp 132) (.const (.bool false))),
oq 10 (.mov (.tmp 133))]) .ret) .skip)) (.seq (.ops false [
oq 135 (.mov (.tmp 0)),
oq 136 (.mov (.tmp 19)),
oq 137 (.call (.func 13) [.tmp 135, .tmp 136]),
oq 134 (.mov (.tmp 137)),
oq 138 (.ext (.tmp 134) 0),
oq 139 (.ext (.tmp 134) 1),
oq 21 (.mov (.tmp 138)),
oq 22 (.mov (.tmp 139))]) (.seq (.ops false [
oq 141 (.mov (.tmp 0)),
oq 142 (.mov (.tmp 19)),
oq 143 (.mov (.tmp 3)),
oq 144 (.mov (.tmp 4)),
oq 145 (.una .neg (.tmp 144)),
oq 146 (.call (.func 20) [.tmp 141, .tmp 142, .tmp 143, .tmp 145]),
oq 140 (.mov (.tmp 146)),
oq 147 (.ext (.tmp 140) 0),
oq 148 (.ext (.tmp 140) 1),
oq 23 (.mov (.tmp 147)),
oq 24 (.mov (.tmp 148))]) (.seq (.ops false [
oq 149 (.mov (.tmp 0)),
oq 150 (.mov (.tmp 19)),
oq 151 (.call (.func 11) [.tmp 149, .tmp 150]),
oq 152 (.mov (.tmp 151)),
gq 153 152 true (.mov (.tmp 22)),
gq 154 152 true (.bin .eql (.tmp 153) (cq 0)),
oq 155 (.pick (.tmp 152) (.tmp 154) (.const (.bool false))),
oq 156 (.mov (.tmp 155)),
gq 157 156 true (.mov (.tmp 24)),
gq 158 156 true (.bin .eql (.tmp 157) (cq 0)),
oq 159 (.pick (.tmp 156) (.tmp 158) (.const (.bool false))),
oq 160 (.mov (.tmp 159)),
gq 161 160 true (.mov (.tmp 21)),
gq 162 160 true (.mov (.tmp 11)),
gq 163 160 true (.mov (.tmp 4)),
gq 164 160 true (.mov (.tmp 0)),
gq 165 160 true (.mov (.tmp 3)),
gq 166 160 true (.ixs 5 (.tmp 164) (.tmp 165)),
gq 167 160 true (.fad 3 (.tmp 166)),
gq 168 160 true (.ld1 (.tmp 167)),
gq 169 160 true (.bin .mul (.tmp 163) (.tmp 168)),
gq 170 160 true (.bin .add (.tmp 162) (.tmp 169)),
gq 171 160 true (.bin .eql (.tmp 161) (.tmp 170)),
oq 172 (.pick (.tmp 160) (.tmp 171) (.const (.bool false))),
oq 173 (.mov (.tmp 172)),
gq 174 173 true (.mov (.tmp 23)),
gq 175 173 true (.mov (.tmp 2)),
gq 176 173 true (.call (.func 19) [.tmp 174, .tmp 175]),
oq 177 (.pick (.tmp 173) (.tmp 176) (.const (.bool false))),
oq 178 (.mov (.tmp 177)),
gq 179 178 true (.call (.func 10) []),
oq 180 (.pick (.tmp 178) (.tmp 179) (.const (.bool false))),
oq 10 (.mov (.tmp 180))]) .ret))))))))))))) }
theorem t8 : tabP Try.prog 0 8 = some ic8 := by kernel_rfl
/-- bandplan/bandplanlaw34.few -/
def ic9 : IFn := { ntmps := 20, results := [.tmp 6], code := (.seq (.ops false [
oq 6 (.mov (.const (.bool false)))]) (.seq (.ops false [
oq 7 (.mov (.tmp 0)),
oq 8 (.len .sl (.tmp 7)),
oq 9 (.bin .leq (.tmp 8) (.const (.int .i64 140))),
oq 10 (.mov (.tmp 9)),
gq 11 10 true (.mov (.tmp 1)),
gq 12 10 true (.len .sl (.tmp 11)),
gq 13 10 true (.bin .leq (.tmp 12) (.const (.int .i64 140))),
oq 14 (.pick (.tmp 10) (.tmp 13) (.const (.bool false))),
oq 15 (.mov (.tmp 14)),
gq 16 15 true (.mov (.tmp 2)),
gq 17 15 true (.len .sl (.tmp 16)),
gq 18 15 true (.bin .leq (.tmp 17) (.const (.int .i64 140))),
oq 19 (.pick (.tmp 15) (.tmp 18) (.const (.bool false))),
oq 6 (.mov (.tmp 19))]) .ret)) }
theorem t9 : tabP Try.prog 0 9 = some ic9 := by kernel_rfl
/-- bandplan/bandplanlaw34.known -/
def ic10 : IFn := { ntmps := 127, results := [.tmp 0], code := (.seq (.ops false [
oq 0 (.mov (.const (.bool false)))]) (.seq (.ops false [
oq 16 (.bld [.int .i64 0, .int .i64 0, .int .i64 0, .int .i64 0, .int .i64 0] [(0, 1, cq 0), (1, 1, cq 1), (2, 1, .const (.int .i64 3)), (3, 1, .const (.int .i64 2))]),
oq 17 (.bld [.int .i64 0, .int .i64 0, .int .i64 0, .int .i64 0, .int .i64 0] [(0, 1, cq 0), (1, 1, .const (.int .i64 2)), (2, 1, cq 1), (3, 1, .const (.int .i64 2))]),
oq 18 (.bsl 2 [.int .i64 0, .int .i64 0, .int .i64 0, .int .i64 0, .int .i64 0, .int .i64 0, .int .i64 0, .int .i64 0, .int .i64 0, .int .i64 0] [(0, 5, .tmp 16), (5, 5, .tmp 17)]),
oq 1 (.mov (.tmp 18))]) (.seq (.ops false [
oq 20 (.mov (.tmp 1)),
oq 21 (.bsl 2 [.int .i64 0, .int .i64 0] [(0, 1, .const (.int .i64 2)), (1, 1, cq 1)]),
oq 22 (.call (.func 13) [.tmp 20, .tmp 21]),
oq 19 (.mov (.tmp 22)),
oq 23 (.ext (.tmp 19) 0),
oq 24 (.ext (.tmp 19) 1),
oq 2 (.mov (.tmp 23)),
oq 3 (.mov (.tmp 24))]) (.seq (.ops false [
oq 26 (.mov (.tmp 1)),
oq 27 (.bsl 2 [.int .i64 0, .int .i64 0] [(0, 1, .const (.int .i64 10)), (1, 1, .const (.int .i64 7))]),
oq 28 (.bsl 2 [.int .i64 0, .int .i64 0] [(0, 1, .const (.int .i64 2)), (1, 1, cq 1)]),
oq 29 (.call (.func 15) [.tmp 26, .tmp 27, .tmp 28]),
oq 25 (.mov (.tmp 29)),
oq 30 (.ext (.tmp 25) 0),
oq 31 (.ext (.tmp 25) 1),
oq 4 (.mov (.tmp 30)),
oq 5 (.mov (.tmp 31))]) (.seq (.ops false [
oq 33 (.mov (.tmp 1)),
oq 34 (.bsl 2 [.int .i64 0, .int .i64 0] [(0, 1, .const (.int .i64 2)), (1, 1, cq 1)]),
oq 35 (.bld [.int .i64 0, .int .i64 0, .int .i64 0, .slice none 0 0] [(0, 1, cq 0), (1, 1, .const (.int .i64 6)), (3, 1, .tmp 34)]),
oq 36 (.bsl 2 [.int .i64 0, .int .i64 0] [(0, 1, .const (.int .i64 2)), (1, 1, cq 0)]),
oq 37 (.bld [.int .i64 0, .int .i64 0, .int .i64 0, .slice none 0 0] [(0, 1, cq 1), (1, 1, .const (.int .i64 4)), (3, 1, .tmp 36)]),
oq 38 (.bsl 2 [.int .i64 0, .int .i64 0, .int .i64 0, .slice none 0 0, .int .i64 0, .int .i64 0, .int .i64 0, .slice none 0 0] [(0, 4, .tmp 35), (4, 4, .tmp 37)]),
oq 39 (.call (.func 25) [.tmp 33, .tmp 38]),
oq 32 (.mov (.tmp 39)),
oq 40 (.ext (.tmp 32) 0),
oq 41 (.ext (.tmp 32) 1),
oq 6 (.mov (.tmp 40)),
oq 7 (.mov (.tmp 41))]) (.seq (.ops false [
oq 43 (.mov (.tmp 1)),
oq 44 (.bsl 2 [.int .i64 0, .int .i64 0] [(0, 1, .const (.int .i64 4)), (1, 1, cq 1)]),
oq 45 (.call (.func 17) [.tmp 43, .tmp 44]),
oq 42 (.mov (.tmp 45)),
oq 46 (.ext (.tmp 42) 0),
oq 47 (.ext (.tmp 42) 1),
oq 8 (.mov (.tmp 46)),
oq 9 (.mov (.tmp 47))]) (.seq (.seq (.ops false [
oq 48 (.mov (.tmp 2)),
oq 49 (.bin .neq (.tmp 48) (.const (.int .i64 6))),
oq 50 (.mov (.tmp 49)),
gq 51 50 false (.mov (.tmp 4)),
gq 52 50 false (.bin .neq (.tmp 51) (.const (.int .i64 27))),
oq 53 (.pick (.tmp 50) (.const (.bool true)) (.tmp 52)),
oq 54 (.mov (.tmp 53)),
gq 55 54 false (.mov (.tmp 3)),
gq 56 54 false (.bin .neq (.tmp 55) (cq 0)),
oq 57 (.pick (.tmp 54) (.const (.bool true)) (.tmp 56)),
oq 58 (.mov (.tmp 57)),
gq 59 58 false (.mov (.tmp 5)),
gq 60 58 false (.bin .neq (.tmp 59) (cq 0)),
oq 61 (.pick (.tmp 58) (.const (.bool true)) (.tmp 60)),
oq 62 (.mov (.tmp 61)),
gq 63 62 false (.mov (.tmp 7)),
gq 64 62 false (.bin .neq (.tmp 63) (cq 0)),
oq 65 (.pick (.tmp 62) (.const (.bool true)) (.tmp 64)),
oq 66 (.mov (.tmp 65)),
gq 67 66 false (.mov (.tmp 9)),
gq 68 66 false (.bin .neq (.tmp 67) (cq 0)),
oq 69 (.pick (.tmp 66) (.const (.bool true)) (.tmp 68)),
oq 70 (.mov (.tmp 69)),
gq 71 70 false (.mov (.tmp 6)),
gq 72 70 false (.bsl 2 [.int .i64 0, .int .i64 0] [(0, 1, .const (.int .i64 4)), (1, 1, cq 1)]),
gq 73 70 false (.call (.func 19) [.tmp 71, .tmp 72]),
gq 74 70 false (.una .not (.tmp 73)),
oq 75 (.pick (.tmp 70) (.const (.bool true)) (.tmp 74)),
oq 76 (.mov (.tmp 75)),
gq 77 76 false (.mov (.tmp 8)),
gq 78 76 false (.bsl 2 [.int .i64 0, .int .i64 0] [(0, 1, cq 1), (1, 1, cq 0)]),
gq 79 76 false (.call (.func 19) [.tmp 77, .tmp 78]),
gq 80 76 false (.una .not (.tmp 79)),
oq 81 (.pick (.tmp 76) (.const (.bool true)) (.tmp 80))]) (.cond (.tmp 81) (.seq (.ops false [
oq 0 (.mov (.const (.bool false)))]) .ret) .skip)) (.seq (.ops false [
oq 83 (.mov (.tmp 1)),
oq 84 (.bsl 2 [.int .i64 0, .int .i64 0] [(0, 1, .const (.int .i64 2)), (1, 1, cq 1)]),
oq 85 (.call (.func 20) [.tmp 83, .tmp 84, cq 0, cq 1]),
oq 82 (.mov (.tmp 85)),
oq 86 (.ext (.tmp 82) 0),
oq 87 (.ext (.tmp 82) 1),
oq 10 (.mov (.tmp 86)),
oq 11 (.mov (.tmp 87))]) (.seq (.ops false [
oq 89 (.mov (.tmp 1)),
oq 90 (.bsl 2 [.int .i64 0, .int .i64 0] [(0, 1, .const (.int .i64 2)), (1, 1, cq 1)]),
oq 91 (.call (.func 20) [.tmp 89, .tmp 90, cq 0, .const (.int .i64 2)]),
oq 88 (.mov (.tmp 91)),
oq 92 (.ext (.tmp 88) 0),
oq 93 (.ext (.tmp 88) 1),
oq 12 (.mov (.tmp 92)),
oq 13 (.mov (.tmp 93))]) (.seq (.ops false [
oq 95 (.mov (.tmp 1)),
oq 96 (.bld [.int .i64 0, .int .i64 0, .int .i64 0, .int .i64 0, .int .i64 0] [(0, 1, cq 0), (1, 1, cq 1), (2, 1, cq 1), (3, 1, .const (.int .i64 2))]),
oq 97 (.bsl 1 [.int .i64 0, .int .i64 0, .int .i64 0, .int .i64 0, .int .i64 0] [(0, 5, .tmp 96)]),
oq 98 (.bsl 2 [.int .i64 0, .int .i64 0] [(0, 1, .const (.int .i64 2)), (1, 1, cq 1)]),
oq 99 (.call (.func 22) [.tmp 95, .tmp 97, .tmp 98]),
oq 94 (.mov (.tmp 99)),
oq 100 (.ext (.tmp 94) 0),
oq 101 (.ext (.tmp 94) 1),
oq 14 (.mov (.tmp 100)),
oq 15 (.mov (.tmp 101))]) (.seq (.ops false [
oq 102 (.mov (.tmp 11)),
oq 103 (.bin .eql (.tmp 102) (cq 0)),
oq 104 (.mov (.tmp 103)),
gq 105 104 true (.mov (.tmp 15)),
gq 106 104 true (.bin .eql (.tmp 105) (cq 0)),
oq 107 (.pick (.tmp 104) (.tmp 106) (.const (.bool false))),
oq 108 (.mov (.tmp 107)),
gq 109 108 true (.mov (.tmp 13)),
gq 110 108 true (.bin .eql (.tmp 109) (.const (.int .i64 3))),
oq 111 (.pick (.tmp 108) (.tmp 110) (.const (.bool false))),
oq 112 (.mov (.tmp 111)),
gq 113 112 true (.mov (.tmp 12)),
gq 114 112 true (.len .sl (.tmp 113)),
gq 115 112 true (.bin .eql (.tmp 114) (cq 0)),
oq 116 (.pick (.tmp 112) (.tmp 115) (.const (.bool false))),
oq 117 (.mov (.tmp 116)),
gq 118 117 true (.mov (.tmp 10)),
gq 119 117 true (.bsl 2 [.int .i64 0, .int .i64 0] [(0, 1, .const (.int .i64 3)), (1, 1, cq 1)]),
gq 120 117 true (.call (.func 19) [.tmp 118, .tmp 119]),
oq 121 (.pick (.tmp 117) (.tmp 120) (.const (.bool false))),
oq 122 (.mov (.tmp 121)),
gq 123 122 true (.mov (.tmp 14)),
gq 124 122 true (.bsl 1 [.int .i64 0] [(0, 1, cq 1)]),
gq 125 122 true (.call (.func 19) [.tmp 123, .tmp 124]),
oq 126 (.pick (.tmp 122) (.tmp 125) (.const (.bool false))),
oq 0 (.mov (.tmp 126))]) .ret))))))))))) }
theorem t10 : tabP Try.prog 0 10 = some ic10 := by kernel_rfl
/-- bandplan/demand.Valid -/
def ic11 : IFn := { ntmps := 36, results := [.tmp 4], code := (.seq (.ops false [
oq 4 (.mov (.const (.bool false)))]) (.seq (.seq (.ops false [
oq 7 (.mov (.tmp 0)),
oq 8 (.call (.func 26) [.tmp 7]),
oq 9 (.una .not (.tmp 8)),
oq 10 (.mov (.tmp 9)),
gq 11 10 false (.mov (.tmp 1)),
gq 12 10 false (.len .sl (.tmp 11)),
gq 13 10 false (.mov (.tmp 0)),
gq 14 10 false (.len .sl (.tmp 13)),
gq 15 10 false (.bin .neq (.tmp 12) (.tmp 14)),
oq 16 (.pick (.tmp 10) (.const (.bool true)) (.tmp 15))]) (.cond (.tmp 16) (.seq (.ops false [
oq 4 (.mov (.const (.bool false)))]) .ret) .skip)) (.seq (.seq (.ops false [
oq 17 (.mov (.tmp 1)),
oq 18 (.len .sl (.tmp 17)),
oq 19 (.mov (cq 0))]) (.block 0 (.loop (.seq (.ops false [
oq 20 (.bin .lss (.tmp 19) (.tmp 18))]) (.seq (.cond (.tmp 20) .skip (.exit 0)) (.seq (.block 1 (.seq (.ops false [
oq 21 (.mov (.tmp 19)),
oq 22 (.ixs 1 (.tmp 17) (.tmp 19)),
oq 23 (.ld1 (.tmp 22)),
oq 5 (.mov (.tmp 21)),
oq 6 (.mov (.tmp 23))]) (.seq (.ops false [
oq 24 (.mov (.tmp 6)),
oq 25 (.bin .lss (.tmp 24) (cq 0)),
oq 26 (.mov (.tmp 25)),
gq 27 26 false (.mov (.tmp 6)),
gq 28 26 false (.mov (.tmp 0)),
gq 29 26 false (.mov (.tmp 5)),
gq 30 26 false (.ixs 5 (.tmp 28) (.tmp 29)),
gq 31 26 false (.fad 2 (.tmp 30)),
gq 32 26 false (.ld1 (.tmp 31)),
gq 33 26 false (.bin .gtr (.tmp 27) (.tmp 32)),
oq 34 (.pick (.tmp 26) (.const (.bool true)) (.tmp 33))]) (.cond (.tmp 34) (.seq (.ops false [
oq 4 (.mov (.const (.bool false)))]) .ret) .skip)))) (.ops false [
oq 35 (.bin .add (.tmp 19) (cq 1)),
oq 19 (.mov (.tmp 35))]))))))) (.seq (.ops false [
oq 4 (.mov (.const (.bool true)))]) .ret)))) }
theorem t11 : tabP Try.prog 0 11 = some ic11 := by kernel_rfl
/-- bandplan/bandplanref34.Valid -/
def ic12 : IFn := { ntmps := 39, results := [.tmp 4], code := (.seq (.ops false [
oq 4 (.mov (.const (.bool false)))]) (.seq (.seq (.ops false [
oq 6 (.mov (.tmp 0)),
oq 7 (.call (.func 27) [.tmp 6]),
oq 8 (.una .not (.tmp 7)),
oq 9 (.mov (.tmp 8)),
gq 10 9 false (.mov (.tmp 1)),
gq 11 9 false (.len .sl (.tmp 10)),
gq 12 9 false (.mov (.tmp 0)),
gq 13 9 false (.len .sl (.tmp 12)),
gq 14 9 false (.bin .neq (.tmp 11) (.tmp 13)),
oq 15 (.pick (.tmp 9) (.const (.bool true)) (.tmp 14))]) (.cond (.tmp 15) (.seq (.ops false [
oq 4 (.mov (.const (.bool false)))]) .ret) .skip)) (.seq (.seq (.ops false [
oq 5 (.mov (cq 0))]) (.block 0 (.loop (.seq (.seq (.ops false [
oq 16 (.mov (.tmp 5)),
oq 17 (.mov (.tmp 0)),
oq 18 (.len .sl (.tmp 17)),
oq 19 (.bin .lss (.tmp 16) (.tmp 18))]) (.cond (.tmp 19) .skip (.exit 0))) (.seq (.block 1 (.seq (.ops true [
oq 22 (.mov (.tmp 1)),
oq 23 (.mov (.tmp 5)),
oq 24 (.ixs 1 (.tmp 22) (.tmp 23)),
oq 25 (.ld1 (.tmp 24)),
oq 26 (.bin .lss (.tmp 25) (cq 0)),
oq 27 (.mov (.tmp 26)),
gq 28 27 false (.mov (.tmp 1)),
gq 29 27 false (.mov (.tmp 5)),
gq 30 27 false (.ixs 1 (.tmp 28) (.tmp 29)),
gq 31 27 false (.ld1 (.tmp 30)),
gq 32 27 false (.mov (.tmp 0)),
gq 33 27 false (.mov (.tmp 5)),
gq 34 27 false (.ixs 5 (.tmp 32) (.tmp 33)),
gq 35 27 false (.fad 2 (.tmp 34)),
gq 36 27 false (.ld1 (.tmp 35)),
gq 37 27 false (.bin .gtr (.tmp 31) (.tmp 36)),
oq 38 (.pick (.tmp 27) (.const (.bool true)) (.tmp 37))]) (.cond (.tmp 38) (.seq (.ops false [
oq 4 (.mov (.const (.bool false)))]) .ret) .skip))) (.ops false [
oq 20 (.mov (.tmp 5)),
oq 21 (.bin .add (.tmp 20) (cq 1)),
oq 5 (.mov (.tmp 21))])))))) (.seq (.ops false [
oq 4 (.mov (.const (.bool true)))]) .ret)))) }
theorem t12 : tabP Try.prog 0 12 = some ic12 := by kernel_rfl
/-- bandplan/demand.Units -/
def ic13 : IFn := { ntmps := 13, results := [.tmp 4, .tmp 5], code := (.seq (.ops false [
oq 2 (.box 1 (.tmp 0)),
oq 4 (.mov (cq 0)),
oq 5 (.mov (cq 0))]) (.seq (.seq (.ops false [
oq 6 (.ld1 (.tmp 2)),
oq 7 (.mov (.tmp 1)),
oq 8 (.call (.func 11) [.tmp 6, .tmp 7]),
oq 9 (.una .not (.tmp 8))]) (.cond (.tmp 9) (.seq (.ops false [
oq 4 (.mov (cq 0)),
oq 5 (.mov (.const (.int .i64 2)))]) .ret) .skip)) (.seq (.ops false [
oq 10 (.mov (.tmp 1)),
oq 11 (.fun_ (Fn.func 29) [] [.tmp 2]),
oq 12 (.call (.func 28) [.tmp 10, .tmp 11]),
oq 4 (.mov (.tmp 12)),
oq 5 (.mov (cq 0))]) .ret))) }
theorem t13 : tabP Try.prog 0 13 = some ic13 := by kernel_rfl
/-- bandplan/bandplanref34.Units -/
def ic14 : IFn := { ntmps := 14, results := [.tmp 4, .tmp 5], code := (.seq (.ops false [
oq 4 (.mov (cq 0)),
oq 5 (.mov (cq 0))]) (.seq (.seq (.ops false [
oq 6 (.mov (.tmp 0)),
oq 7 (.mov (.tmp 1)),
oq 8 (.call (.func 12) [.tmp 6, .tmp 7]),
oq 9 (.una .not (.tmp 8))]) (.cond (.tmp 9) (.seq (.ops false [
oq 4 (.mov (cq 0)),
oq 5 (.mov (.const (.int .i64 2)))]) .ret) .skip)) (.seq (.ops false [
oq 10 (.mov (.tmp 0)),
oq 11 (.call (.func 31) [.tmp 10]),
oq 12 (.mov (.tmp 1)),
oq 13 (.call (.func 30) [.tmp 11, .tmp 12]),
oq 4 (.mov (.tmp 13)),
oq 5 (.mov (cq 0))]) .ret))) }
theorem t14 : tabP Try.prog 0 14 = some ic14 := by kernel_rfl
/-- bandplan/demand.Cost -/
def ic15 : IFn := { ntmps := 37, results := [.tmp 6, .tmp 7], code := (.seq (.ops false [
oq 4 (.box 1 (.tmp 1)),
oq 6 (.mov (cq 0)),
oq 7 (.mov (cq 0))]) (.seq (.seq (.ops false [
oq 10 (.mov (.tmp 0)),
oq 11 (.mov (.tmp 2)),
oq 12 (.call (.func 11) [.tmp 10, .tmp 11]),
oq 13 (.una .not (.tmp 12)),
oq 14 (.mov (.tmp 13)),
gq 15 14 false (.ld1 (.tmp 4)),
gq 16 14 false (.len .sl (.tmp 15)),
gq 17 14 false (.mov (.tmp 0)),
gq 18 14 false (.len .sl (.tmp 17)),
gq 19 14 false (.bin .neq (.tmp 16) (.tmp 18)),
oq 20 (.pick (.tmp 14) (.const (.bool true)) (.tmp 19))]) (.cond (.tmp 20) (.seq (.ops false [
oq 6 (.mov (cq 0)),
oq 7 (.mov (.const (.int .i64 2)))]) .ret) .skip)) (.seq (.seq (.ops false [
oq 21 (.ld1 (.tmp 4)),
oq 22 (.len .sl (.tmp 21)),
oq 23 (.mov (cq 0))]) (.block 0 (.loop (.seq (.ops false [
oq 24 (.bin .lss (.tmp 23) (.tmp 22))]) (.seq (.cond (.tmp 24) .skip (.exit 0)) (.seq (.block 1 (.seq (.ops false [
oq 25 (.ixs 1 (.tmp 21) (.tmp 23)),
oq 26 (.ld1 (.tmp 25)),
oq 9 (.mov (.tmp 26))]) (.seq (.ops false [
oq 27 (.mov (.tmp 9)),
oq 28 (.bin .lss (.tmp 27) (cq 0)),
oq 29 (.mov (.tmp 28)),
gq 30 29 false (.mov (.tmp 9)),
gq 31 29 false (.bin .gtr (.tmp 30) (.const (.int .i64 549755813888))),
oq 32 (.pick (.tmp 29) (.const (.bool true)) (.tmp 31))]) (.cond (.tmp 32) (.seq (.ops false [
oq 6 (.mov (cq 0)),
oq 7 (.mov (.const (.int .i64 2)))]) .ret) .skip)))) (.ops false [
oq 33 (.bin .add (.tmp 23) (cq 1)),
oq 23 (.mov (.tmp 33))]))))))) (.seq (.ops false [
oq 34 (.mov (.tmp 2)),
oq 35 (.fun_ (Fn.func 32) [] [.tmp 4]),
oq 36 (.call (.func 28) [.tmp 34, .tmp 35]),
oq 6 (.mov (.tmp 36)),
oq 7 (.mov (cq 0))]) .ret)))) }
theorem t15 : tabP Try.prog 0 15 = some ic15 := by kernel_rfl
/-- bandplan/bandplanref34.Cost -/
def ic16 : IFn := { ntmps := 22, results := [.tmp 6, .tmp 7], code := (.seq (.ops false [
oq 6 (.mov (cq 0)),
oq 7 (.mov (cq 0))]) (.seq (.seq (.ops false [
oq 8 (.mov (.tmp 0)),
oq 9 (.mov (.tmp 2)),
oq 10 (.call (.func 12) [.tmp 8, .tmp 9]),
oq 11 (.una .not (.tmp 10)),
oq 12 (.mov (.tmp 11)),
gq 13 12 false (.mov (.tmp 1)),
gq 14 12 false (.mov (.tmp 0)),
gq 15 12 false (.len .sl (.tmp 14)),
gq 16 12 false (.call (.func 33) [.tmp 13, .tmp 15]),
gq 17 12 false (.una .not (.tmp 16)),
oq 18 (.pick (.tmp 12) (.const (.bool true)) (.tmp 17))]) (.cond (.tmp 18) (.seq (.ops false [
oq 6 (.mov (cq 0)),
oq 7 (.mov (.const (.int .i64 2)))]) .ret) .skip)) (.seq (.ops false [
oq 19 (.mov (.tmp 1)),
oq 20 (.mov (.tmp 2)),
oq 21 (.call (.func 30) [.tmp 19, .tmp 20]),
oq 6 (.mov (.tmp 21)),
oq 7 (.mov (cq 0))]) .ret))) }
theorem t16 : tabP Try.prog 0 16 = some ic16 := by kernel_rfl
/-- bandplan/demand.Excess -/
def ic17 : IFn := { ntmps := 46, results := [.tmp 4, .tmp 5], code := (.seq (.ops false [
oq 4 (.mov (.const (Value.slice none 0 0))),
oq 5 (.mov (cq 0))]) (.seq (.seq (.ops false [
oq 9 (.mov (.tmp 0)),
oq 10 (.call (.func 26) [.tmp 9]),
oq 11 (.una .not (.tmp 10)),
oq 12 (.mov (.tmp 11)),
gq 13 12 false (.mov (.tmp 1)),
gq 14 12 false (.len .sl (.tmp 13)),
gq 15 12 false (.mov (.tmp 0)),
gq 16 12 false (.len .sl (.tmp 15)),
gq 17 12 false (.bin .neq (.tmp 14) (.tmp 16)),
oq 18 (.pick (.tmp 12) (.const (.bool true)) (.tmp 17)),
oq 19 (.mov (.tmp 18)),
gq 20 19 false (.mov (.tmp 1)),
gq 21 19 false (.call (.func 34) [.tmp 20, .func 35]),
oq 22 (.pick (.tmp 19) (.const (.bool true)) (.tmp 21))]) (.cond (.tmp 22) (.seq (.ops false [
oq 4 (.mov (.const (Value.slice none 0 0))),
oq 5 (.mov (.const (.int .i64 2)))]) .ret) .skip)) (.seq (.ops false [
oq 23 (.mov (.tmp 0)),
oq 24 (.len .sl (.tmp 23)),
oq 25 (.mks 1 8 [.int .i64 0] (.tmp 24) (.tmp 24)),
oq 6 (.mov (.tmp 25))]) (.seq (.seq (.ops false [
oq 26 (.mov (.tmp 1)),
oq 27 (.len .sl (.tmp 26)),
oq 28 (.mov (cq 0))]) (.block 0 (.loop (.seq (.ops false [
oq 29 (.bin .lss (.tmp 28) (.tmp 27))]) (.seq (.cond (.tmp 29) .skip (.exit 0)) (.seq (.block 1 (.seq (.ops false [
oq 30 (.mov (.tmp 28)),
oq 31 (.ixs 1 (.tmp 26) (.tmp 28)),
oq 32 (.ld1 (.tmp 31)),
oq 7 (.mov (.tmp 30)),
oq 8 (.mov (.tmp 32))]) (.ops false [
oq 33 (.mov (.tmp 6)),
oq 34 (.mov (.tmp 7)),
oq 35 (.mov (.tmp 8)),
oq 36 (.mov (.tmp 0)),
oq 37 (.mov (.tmp 7)),
oq 38 (.ixs 5 (.tmp 36) (.tmp 37)),
oq 39 (.fad 2 (.tmp 38)),
oq 40 (.ld1 (.tmp 39)),
oq 41 (.bin .sub (.tmp 35) (.tmp 40)),
oq 42 (.mnx true [cq 0, .tmp 41]),
oq 43 (.ixs 1 (.tmp 33) (.tmp 34)),
⟨none, none, false, .sto 1 (.tmp 43) (.tmp 42)⟩]))) (.ops false [
oq 44 (.bin .add (.tmp 28) (cq 1)),
oq 28 (.mov (.tmp 44))]))))))) (.seq (.ops false [
oq 45 (.mov (.tmp 6)),
oq 4 (.mov (.tmp 45)),
oq 5 (.mov (cq 0))]) .ret))))) }
theorem t17 : tabP Try.prog 0 17 = some ic17 := by kernel_rfl
/-- bandplan/bandplanref34.Excess -/
def ic18 : IFn := { ntmps := 51, results := [.tmp 4, .tmp 5], code := (.seq (.ops false [
oq 4 (.mov (.const (Value.slice none 0 0))),
oq 5 (.mov (cq 0))]) (.seq (.seq (.ops false [
oq 8 (.mov (.tmp 0)),
oq 9 (.call (.func 27) [.tmp 8]),
oq 10 (.una .not (.tmp 9)),
oq 11 (.mov (.tmp 10)),
gq 12 11 false (.mov (.tmp 1)),
gq 13 11 false (.len .sl (.tmp 12)),
gq 14 11 false (.mov (.tmp 0)),
gq 15 11 false (.len .sl (.tmp 14)),
gq 16 11 false (.bin .neq (.tmp 13) (.tmp 15)),
oq 17 (.pick (.tmp 11) (.const (.bool true)) (.tmp 16))]) (.cond (.tmp 17) (.seq (.ops false [
oq 4 (.mov (.const (Value.slice none 0 0))),
oq 5 (.mov (.const (.int .i64 2)))]) .ret) .skip)) (.seq (.ops false [
oq 6 (.mov (.const (Value.slice none 0 0)))]) (.seq (.seq (.ops false [
oq 7 (.mov (cq 0))]) (.block 0 (.loop (.seq (.seq (.ops false [
oq 18 (.mov (.tmp 7)),
oq 19 (.mov (.tmp 0)),
oq 20 (.len .sl (.tmp 19)),
oq 21 (.bin .lss (.tmp 18) (.tmp 20))]) (.cond (.tmp 21) .skip (.exit 0))) (.seq (.block 1 (.seq (.seq (.ops false [
oq 24 (.mov (.tmp 1)),
oq 25 (.mov (.tmp 7)),
oq 26 (.ixs 1 (.tmp 24) (.tmp 25)),
oq 27 (.ld1 (.tmp 26)),
oq 28 (.bin .lss (.tmp 27) (cq 0)),
oq 29 (.mov (.tmp 28)),
gq 30 29 false (.mov (.tmp 1)),
gq 31 29 false (.mov (.tmp 7)),
gq 32 29 false (.ixs 1 (.tmp 30) (.tmp 31)),
gq 33 29 false (.ld1 (.tmp 32)),
gq 34 29 false (.bin .gtr (.tmp 33) (.const (.int .i64 384))),
oq 35 (.pick (.tmp 29) (.const (.bool true)) (.tmp 34))]) (.cond (.tmp 35) (.seq (.ops false [
oq 4 (.mov (.const (Value.slice none 0 0))),
oq 5 (.mov (.const (.int .i64 2)))]) .ret) .skip)) (.ops true [
oq 36 (.mov (.tmp 6)),
oq 37 (.mov (.tmp 1)),
oq 38 (.mov (.tmp 7)),
oq 39 (.ixs 1 (.tmp 37) (.tmp 38)),
oq 40 (.ld1 (.tmp 39)),
oq 41 (.mov (.tmp 0)),
oq 42 (.mov (.tmp 7)),
oq 43 (.ixs 5 (.tmp 41) (.tmp 42)),
oq 44 (.fad 2 (.tmp 43)),
oq 45 (.ld1 (.tmp 44)),
oq 46 (.bin .sub (.tmp 40) (.tmp 45)),
oq 47 (.mnx true [cq 0, .tmp 46]),
oq 48 (.bsl 1 [.int .i64 0] [(0, 1, .tmp 47)]),
oq 49 (.app 1 8 (.tmp 36) (.tmp 48)),
oq 6 (.mov (.tmp 49))]))) (.ops false [
oq 22 (.mov (.tmp 7)),
oq 23 (.bin .add (.tmp 22) (cq 1)),
oq 7 (.mov (.tmp 23))])))))) (.seq (.ops false [
oq 50 (.mov (.tmp 6)),
oq 4 (.mov (.tmp 50)),
oq 5 (.mov (cq 0))]) .ret))))) }
theorem t18 : tabP Try.prog 0 18 = some ic18 := by kernel_rfl
/-- bandplan/bandplanref34.Same -/
def ic19 : IFn := { ntmps := 26, results := [.tmp 4], code := (.seq (.ops false [
oq 4 (.mov (.const (.bool false)))]) (.seq (.seq (.ops false [
oq 6 (.mov (.tmp 0)),
oq 7 (.len .sl (.tmp 6)),
oq 8 (.mov (.tmp 1)),
oq 9 (.len .sl (.tmp 8)),
oq 10 (.bin .neq (.tmp 7) (.tmp 9))]) (.cond (.tmp 10) (.seq (.ops false [
oq 4 (.mov (.const (.bool false)))]) .ret) .skip)) (.seq (.seq (.ops false [
oq 5 (.mov (cq 0))]) (.block 0 (.loop (.seq (.seq (.ops false [
oq 11 (.mov (.tmp 5)),
oq 12 (.mov (.tmp 0)),
oq 13 (.len .sl (.tmp 12)),
oq 14 (.bin .lss (.tmp 11) (.tmp 13))]) (.cond (.tmp 14) .skip (.exit 0))) (.seq (.block 1 (.seq (.ops true [
oq 17 (.mov (.tmp 0)),
oq 18 (.mov (.tmp 5)),
oq 19 (.ixs 1 (.tmp 17) (.tmp 18)),
oq 20 (.ld1 (.tmp 19)),
oq 21 (.mov (.tmp 1)),
oq 22 (.mov (.tmp 5)),
oq 23 (.ixs 1 (.tmp 21) (.tmp 22)),
oq 24 (.ld1 (.tmp 23)),
oq 25 (.bin .neq (.tmp 20) (.tmp 24))]) (.cond (.tmp 25) (.seq (.ops false [
oq 4 (.mov (.const (.bool false)))]) .ret) .skip))) (.ops false [
oq 15 (.mov (.tmp 5)),
oq 16 (.bin .add (.tmp 15) (cq 1)),
oq 5 (.mov (.tmp 16))])))))) (.seq (.ops false [
oq 4 (.mov (.const (.bool true)))]) .ret)))) }
theorem t19 : tabP Try.prog 0 19 = some ic19 := by kernel_rfl
/-- bandplan/demand.Change -/
def ic20 : IFn := { ntmps := 56, results := [.tmp 8, .tmp 9], code := (.seq (.ops false [
oq 8 (.mov (.const (Value.slice none 0 0))),
oq 9 (.mov (cq 0))]) (.seq (.seq (.ops false [
oq 11 (.mov (.tmp 0)),
oq 12 (.mov (.tmp 1)),
oq 13 (.call (.func 11) [.tmp 11, .tmp 12]),
oq 14 (.una .not (.tmp 13)),
oq 15 (.mov (.tmp 14)),
gq 16 15 false (.mov (.tmp 2)),
gq 17 15 false (.bin .lss (.tmp 16) (cq 0)),
oq 18 (.pick (.tmp 15) (.const (.bool true)) (.tmp 17)),
oq 19 (.mov (.tmp 18)),
gq 20 19 false (.mov (.tmp 2)),
gq 21 19 false (.mov (.tmp 0)),
gq 22 19 false (.len .sl (.tmp 21)),
gq 23 19 false (.bin .geq (.tmp 20) (.tmp 22)),
oq 24 (.pick (.tmp 19) (.const (.bool true)) (.tmp 23))]) (.cond (.tmp 24) (.seq (.ops false [
oq 8 (.mov (.const (Value.slice none 0 0))),
oq 9 (.mov (.const (.int .i64 2)))]) .ret) .skip)) (.seq (.seq (.ops true [
oq 25 (.mov (.tmp 3)),
oq 26 (.mov (.tmp 1)),
oq 27 (.mov (.tmp 2)),
oq 28 (.ixs 1 (.tmp 26) (.tmp 27)),
oq 29 (.ld1 (.tmp 28)),
oq 30 (.una .neg (.tmp 29)),
oq 31 (.bin .lss (.tmp 25) (.tmp 30)),
oq 32 (.mov (.tmp 31)),
gq 33 32 false (.mov (.tmp 3)),
gq 34 32 false (.mov (.tmp 0)),
gq 35 32 false (.mov (.tmp 2)),
gq 36 32 false (.ixs 5 (.tmp 34) (.tmp 35)),
gq 37 32 false (.fad 2 (.tmp 36)),
gq 38 32 false (.ld1 (.tmp 37)),
gq 39 32 false (.mov (.tmp 1)),
gq 40 32 false (.mov (.tmp 2)),
gq 41 32 false (.ixs 1 (.tmp 39) (.tmp 40)),
gq 42 32 false (.ld1 (.tmp 41)),
gq 43 32 false (.bin .sub (.tmp 38) (.tmp 42)),
gq 44 32 false (.bin .gtr (.tmp 33) (.tmp 43)),
oq 45 (.pick (.tmp 32) (.const (.bool true)) (.tmp 44))]) (.cond (.tmp 45) (.seq (.ops false [
oq 8 (.mov (.const (Value.slice none 0 0))),
oq 9 (.mov (.const (.int .i64 3)))]) .ret) .skip)) (.seq (.ops false [
oq 46 (.mov (.tmp 1)),
oq 47 (.call (.func 36) [.tmp 46]),
oq 10 (.mov (.tmp 47))]) (.seq (.ops false [
oq 48 (.mov (.tmp 10)),
oq 49 (.mov (.tmp 2)),
oq 50 (.ixs 1 (.tmp 48) (.tmp 49)),
oq 51 (.ld1 (.tmp 50)),
oq 52 (.mov (.tmp 3)),
oq 53 (.bin .add (.tmp 51) (.tmp 52)),
oq 54 (.ixs 1 (.tmp 48) (.tmp 49)),
⟨none, none, false, .sto 1 (.tmp 54) (.tmp 53)⟩]) (.seq (.ops false [
oq 55 (.mov (.tmp 10)),
oq 8 (.mov (.tmp 55)),
oq 9 (.mov (cq 0))]) .ret)))))) }
theorem t20 : tabP Try.prog 0 20 = some ic20 := by kernel_rfl
/-- bandplan/bandplanref34.Change -/
def ic21 : IFn := { ntmps := 58, results := [.tmp 8, .tmp 9], code := (.seq (.ops false [
oq 8 (.mov (.const (Value.slice none 0 0))),
oq 9 (.mov (cq 0))]) (.seq (.seq (.ops false [
oq 11 (.mov (.tmp 0)),
oq 12 (.mov (.tmp 1)),
oq 13 (.call (.func 12) [.tmp 11, .tmp 12]),
oq 14 (.una .not (.tmp 13)),
oq 15 (.mov (.tmp 14)),
gq 16 15 false (.mov (.tmp 2)),
gq 17 15 false (.bin .lss (.tmp 16) (cq 0)),
oq 18 (.pick (.tmp 15) (.const (.bool true)) (.tmp 17)),
oq 19 (.mov (.tmp 18)),
gq 20 19 false (.mov (.tmp 2)),
gq 21 19 false (.mov (.tmp 0)),
gq 22 19 false (.len .sl (.tmp 21)),
gq 23 19 false (.bin .geq (.tmp 20) (.tmp 22)),
oq 24 (.pick (.tmp 19) (.const (.bool true)) (.tmp 23))]) (.cond (.tmp 24) (.seq (.ops false [
oq 8 (.mov (.const (Value.slice none 0 0))),
oq 9 (.mov (.const (.int .i64 2)))]) .ret) .skip)) (.seq (.seq (.ops true [
oq 25 (.mov (.tmp 3)),
oq 26 (.mov (.tmp 1)),
oq 27 (.mov (.tmp 2)),
oq 28 (.ixs 1 (.tmp 26) (.tmp 27)),
oq 29 (.ld1 (.tmp 28)),
oq 30 (.una .neg (.tmp 29)),
oq 31 (.bin .lss (.tmp 25) (.tmp 30)),
oq 32 (.mov (.tmp 31)),
gq 33 32 false (.mov (.tmp 3)),
gq 34 32 false (.mov (.tmp 0)),
gq 35 32 false (.mov (.tmp 2)),
gq 36 32 false (.ixs 5 (.tmp 34) (.tmp 35)),
gq 37 32 false (.fad 2 (.tmp 36)),
gq 38 32 false (.ld1 (.tmp 37)),
gq 39 32 false (.mov (.tmp 1)),
gq 40 32 false (.mov (.tmp 2)),
gq 41 32 false (.ixs 1 (.tmp 39) (.tmp 40)),
gq 42 32 false (.ld1 (.tmp 41)),
gq 43 32 false (.bin .sub (.tmp 38) (.tmp 42)),
gq 44 32 false (.bin .gtr (.tmp 33) (.tmp 43)),
oq 45 (.pick (.tmp 32) (.const (.bool true)) (.tmp 44))]) (.cond (.tmp 45) (.seq (.ops false [
oq 8 (.mov (.const (Value.slice none 0 0))),
oq 9 (.mov (.const (.int .i64 3)))]) .ret) .skip)) (.seq (.ops false [
oq 46 (.mov (.tmp 1)),
oq 47 (.app 1 8 (.const (Value.slice none 0 0)) (.tmp 46)),
oq 10 (.mov (.tmp 47))]) (.seq (.ops false [
oq 48 (.mov (.tmp 10)),
oq 49 (.mov (.tmp 2)),
oq 50 (.mov (.tmp 10)),
oq 51 (.mov (.tmp 2)),
oq 52 (.ixs 1 (.tmp 50) (.tmp 51)),
oq 53 (.ld1 (.tmp 52)),
oq 54 (.mov (.tmp 3)),
oq 55 (.bin .add (.tmp 53) (.tmp 54)),
oq 56 (.ixs 1 (.tmp 48) (.tmp 49)),
⟨none, none, false, .sto 1 (.tmp 56) (.tmp 55)⟩]) (.seq (.ops false [
oq 57 (.mov (.tmp 10)),
oq 8 (.mov (.tmp 57)),
oq 9 (.mov (cq 0))]) .ret)))))) }
theorem t21 : tabP Try.prog 0 21 = some ic21 := by kernel_rfl
/-- bandplan/demand.Carry -/
def ic22 : IFn := { ntmps := 67, results := [.tmp 6, .tmp 7], code := (.seq (.ops false [
oq 6 (.mov (.const (Value.slice none 0 0))),
oq 7 (.mov (cq 0))]) (.seq (.seq (.ops false [
oq 14 (.mov (.tmp 0)),
oq 15 (.mov (.tmp 2)),
oq 16 (.call (.func 11) [.tmp 14, .tmp 15]),
oq 17 (.una .not (.tmp 16)),
oq 18 (.mov (.tmp 17)),
gq 19 18 false (.mov (.tmp 1)),
gq 20 18 false (.call (.func 26) [.tmp 19]),
gq 21 18 false (.una .not (.tmp 20)),
oq 22 (.pick (.tmp 18) (.const (.bool true)) (.tmp 21))]) (.cond (.tmp 22) (.seq (.ops false [
oq 6 (.mov (.const (Value.slice none 0 0))),
oq 7 (.mov (.const (.int .i64 2)))]) .ret) .skip)) (.seq (.ops false [
oq 23 (.mkm),
oq 8 (.mov (.tmp 23))]) (.seq (.seq (.ops false [
oq 24 (.mov (.tmp 0)),
oq 25 (.len .sl (.tmp 24)),
oq 26 (.mov (cq 0))]) (.block 0 (.loop (.seq (.ops false [
oq 27 (.bin .lss (.tmp 26) (.tmp 25))]) (.seq (.cond (.tmp 27) .skip (.exit 0)) (.seq (.block 1 (.seq (.ops false [
oq 28 (.mov (.tmp 26)),
oq 29 (.ixs 5 (.tmp 24) (.tmp 26)),
oq 30 (.ldn 5 (.tmp 29)),
oq 10 (.new [.int .i64 0, .int .i64 0, .int .i64 0, .int .i64 0, .int .i64 0]),
oq 9 (.mov (.tmp 28)),
⟨none, none, false, .sto 5 (.tmp 10) (.tmp 30)⟩]) (.ops true [
oq 31 (.mov (.tmp 8)),
oq 32 (.fad 0 (.tmp 10)),
oq 33 (.ld1 (.tmp 32)),
oq 34 (.fad 1 (.tmp 10)),
oq 35 (.ld1 (.tmp 34)),
oq 36 (.bld [.int .i64 0, .int .i64 0] [(0, 1, .tmp 33), (1, 1, .tmp 35)]),
oq 37 (.mov (.tmp 2)),
oq 38 (.mov (.tmp 9)),
oq 39 (.ixs 1 (.tmp 37) (.tmp 38)),
oq 40 (.ld1 (.tmp 39)),
⟨none, none, false, .mup ⟨true, [.i, .i]⟩ (.tmp 31) (.tmp 36) (.tmp 40)⟩]))) (.ops false [
oq 41 (.bin .add (.tmp 26) (cq 1)),
oq 26 (.mov (.tmp 41))]))))))) (.seq (.ops false [
oq 42 (.mov (.tmp 1)),
oq 43 (.len .sl (.tmp 42)),
oq 44 (.mks 1 8 [.int .i64 0] (.tmp 43) (.tmp 43)),
oq 11 (.mov (.tmp 44))]) (.seq (.seq (.ops false [
oq 45 (.mov (.tmp 1)),
oq 46 (.len .sl (.tmp 45)),
oq 47 (.mov (cq 0))]) (.block 2 (.loop (.seq (.ops false [
oq 48 (.bin .lss (.tmp 47) (.tmp 46))]) (.seq (.cond (.tmp 48) .skip (.exit 2)) (.seq (.block 3 (.seq (.ops false [
oq 49 (.mov (.tmp 47)),
oq 50 (.ixs 5 (.tmp 45) (.tmp 47)),
oq 51 (.ldn 5 (.tmp 50)),
oq 13 (.new [.int .i64 0, .int .i64 0, .int .i64 0, .int .i64 0, .int .i64 0]),
oq 12 (.mov (.tmp 49)),
⟨none, none, false, .sto 5 (.tmp 13) (.tmp 51)⟩]) (.ops true [
oq 52 (.mov (.tmp 11)),
oq 53 (.mov (.tmp 12)),
oq 54 (.mov (.tmp 8)),
oq 55 (.fad 0 (.tmp 13)),
oq 56 (.ld1 (.tmp 55)),
oq 57 (.fad 1 (.tmp 13)),
oq 58 (.ld1 (.tmp 57)),
oq 59 (.bld [.int .i64 0, .int .i64 0] [(0, 1, .tmp 56), (1, 1, .tmp 58)]),
oq 60 (.lkp ⟨true, [.i, .i]⟩ (.int .i64 0) false (.tmp 54) (.tmp 59)),
oq 61 (.fad 2 (.tmp 13)),
oq 62 (.ld1 (.tmp 61)),
oq 63 (.mnx false [.tmp 60, .tmp 62]),
oq 64 (.ixs 1 (.tmp 52) (.tmp 53)),
⟨none, none, false, .sto 1 (.tmp 64) (.tmp 63)⟩]))) (.ops false [
oq 65 (.bin .add (.tmp 47) (cq 1)),
oq 47 (.mov (.tmp 65))]))))))) (.seq (.ops false [
oq 66 (.mov (.tmp 11)),
oq 6 (.mov (.tmp 66)),
oq 7 (.mov (cq 0))]) .ret))))))) }
theorem t22 : tabP Try.prog 0 22 = some ic22 := by kernel_rfl
/-- bandplan/bandplanref34.Carry -/
def ic23 : IFn := { ntmps := 72, results := [.tmp 6, .tmp 7], code := (.seq (.ops false [
oq 6 (.mov (.const (Value.slice none 0 0))),
oq 7 (.mov (cq 0))]) (.seq (.seq (.ops false [
oq 12 (.mov (.tmp 0)),
oq 13 (.mov (.tmp 2)),
oq 14 (.call (.func 12) [.tmp 12, .tmp 13]),
oq 15 (.una .not (.tmp 14)),
oq 16 (.mov (.tmp 15)),
gq 17 16 false (.mov (.tmp 1)),
gq 18 16 false (.call (.func 27) [.tmp 17]),
gq 19 16 false (.una .not (.tmp 18)),
oq 20 (.pick (.tmp 16) (.const (.bool true)) (.tmp 19))]) (.cond (.tmp 20) (.seq (.ops false [
oq 6 (.mov (.const (Value.slice none 0 0))),
oq 7 (.mov (.const (.int .i64 2)))]) .ret) .skip)) (.seq (.ops false [
oq 8 (.mov (.const (Value.slice none 0 0)))]) (.seq (.seq (.ops false [
oq 9 (.mov (cq 0))]) (.block 0 (.loop (.seq (.seq (.ops false [
oq 21 (.mov (.tmp 9)),
oq 22 (.mov (.tmp 1)),
oq 23 (.len .sl (.tmp 22)),
oq 24 (.bin .lss (.tmp 21) (.tmp 23))]) (.cond (.tmp 24) .skip (.exit 0))) (.seq (.block 1 (.seq (.ops false [
oq 10 (.mov (cq 0))]) (.seq (.seq (.ops false [
oq 11 (.mov (cq 0))]) (.block 2 (.loop (.seq (.seq (.ops false [
oq 27 (.mov (.tmp 11)),
oq 28 (.mov (.tmp 0)),
oq 29 (.len .sl (.tmp 28)),
oq 30 (.bin .lss (.tmp 27) (.tmp 29))]) (.cond (.tmp 30) .skip (.exit 2))) (.seq (.block 3 (.seq (.ops true [
oq 33 (.mov (.tmp 0)),
oq 34 (.mov (.tmp 11)),
oq 35 (.ixs 5 (.tmp 33) (.tmp 34)),
oq 36 (.fad 0 (.tmp 35)),
oq 37 (.ld1 (.tmp 36)),
oq 38 (.mov (.tmp 1)),
oq 39 (.mov (.tmp 9)),
oq 40 (.ixs 5 (.tmp 38) (.tmp 39)),
oq 41 (.fad 0 (.tmp 40)),
oq 42 (.ld1 (.tmp 41)),
oq 43 (.bin .eql (.tmp 37) (.tmp 42)),
oq 44 (.mov (.tmp 43)),
gq 45 44 true (.mov (.tmp 0)),
gq 46 44 true (.mov (.tmp 11)),
gq 47 44 true (.ixs 5 (.tmp 45) (.tmp 46)),
gq 48 44 true (.fad 1 (.tmp 47)),
gq 49 44 true (.ld1 (.tmp 48)),
gq 50 44 true (.mov (.tmp 1)),
gq 51 44 true (.mov (.tmp 9)),
gq 52 44 true (.ixs 5 (.tmp 50) (.tmp 51)),
gq 53 44 true (.fad 1 (.tmp 52)),
gq 54 44 true (.ld1 (.tmp 53)),
gq 55 44 true (.bin .eql (.tmp 49) (.tmp 54)),
oq 56 (.pick (.tmp 44) (.tmp 55) (.const (.bool false)))]) (.cond (.tmp 56) (.ops true [
oq 57 (.mov (.tmp 2)),
oq 58 (.mov (.tmp 11)),
oq 59 (.ixs 1 (.tmp 57) (.tmp 58)),
oq 60 (.ld1 (.tmp 59)),
oq 61 (.mov (.tmp 1)),
oq 62 (.mov (.tmp 9)),
oq 63 (.ixs 5 (.tmp 61) (.tmp 62)),
oq 64 (.fad 2 (.tmp 63)),
oq 65 (.ld1 (.tmp 64)),
oq 66 (.mnx false [.tmp 60, .tmp 65]),
oq 10 (.mov (.tmp 66))]) .skip))) (.ops false [
oq 31 (.mov (.tmp 11)),
oq 32 (.bin .add (.tmp 31) (cq 1)),
oq 11 (.mov (.tmp 32))])))))) (.ops false [
oq 67 (.mov (.tmp 8)),
oq 68 (.mov (.tmp 10)),
oq 69 (.bsl 1 [.int .i64 0] [(0, 1, .tmp 68)]),
oq 70 (.app 1 8 (.tmp 67) (.tmp 69)),
oq 8 (.mov (.tmp 70))])))) (.ops false [
oq 25 (.mov (.tmp 9)),
oq 26 (.bin .add (.tmp 25) (cq 1)),
oq 9 (.mov (.tmp 26))])))))) (.seq (.ops false [
oq 71 (.mov (.tmp 8)),
oq 6 (.mov (.tmp 71)),
oq 7 (.mov (cq 0))]) .ret))))) }
theorem t23 : tabP Try.prog 0 23 = some ic23 := by kernel_rfl
/-- bandplan/bandplanlaw34.alike -/
def ic24 : IFn := { ntmps := 56, results := [.tmp 4], code := (.seq (.ops false [
oq 4 (.mov (.const (.bool false)))]) (.seq (.seq (.ops false [
oq 5 (.mov (cq 0))]) (.block 0 (.loop (.seq (.seq (.ops false [
oq 7 (.mov (.tmp 5)),
oq 8 (.mov (.tmp 0)),
oq 9 (.len .sl (.tmp 8)),
oq 10 (.bin .lss (.tmp 7) (.tmp 9))]) (.cond (.tmp 10) .skip (.exit 0))) (.seq (.block 1 (.seq (.ops false [
oq 6 (.mov (cq 0))]) (.block 2 (.loop (.seq (.seq (.ops false [
oq 13 (.mov (.tmp 6)),
oq 14 (.mov (.tmp 1)),
oq 15 (.len .sl (.tmp 14)),
oq 16 (.bin .lss (.tmp 13) (.tmp 15))]) (.cond (.tmp 16) .skip (.exit 2))) (.seq (.block 3 (.seq (.ops true [
oq 19 (.mov (.tmp 0)),
oq 20 (.mov (.tmp 5)),
oq 21 (.ixs 5 (.tmp 19) (.tmp 20)),
oq 22 (.fad 0 (.tmp 21)),
oq 23 (.ld1 (.tmp 22)),
oq 24 (.mov (.tmp 1)),
oq 25 (.mov (.tmp 6)),
oq 26 (.ixs 5 (.tmp 24) (.tmp 25)),
oq 27 (.fad 0 (.tmp 26)),
oq 28 (.ld1 (.tmp 27)),
oq 29 (.bin .eql (.tmp 23) (.tmp 28)),
oq 30 (.mov (.tmp 29)),
gq 31 30 true (.mov (.tmp 0)),
gq 32 30 true (.mov (.tmp 5)),
gq 33 30 true (.ixs 5 (.tmp 31) (.tmp 32)),
gq 34 30 true (.fad 1 (.tmp 33)),
gq 35 30 true (.ld1 (.tmp 34)),
gq 36 30 true (.mov (.tmp 1)),
gq 37 30 true (.mov (.tmp 6)),
gq 38 30 true (.ixs 5 (.tmp 36) (.tmp 37)),
gq 39 30 true (.fad 1 (.tmp 38)),
gq 40 30 true (.ld1 (.tmp 39)),
gq 41 30 true (.bin .eql (.tmp 35) (.tmp 40)),
oq 42 (.pick (.tmp 30) (.tmp 41) (.const (.bool false))),
oq 43 (.mov (.tmp 42)),
gq 44 43 true (.mov (.tmp 0)),
gq 45 43 true (.mov (.tmp 5)),
gq 46 43 true (.ixs 5 (.tmp 44) (.tmp 45)),
gq 47 43 true (.fad 3 (.tmp 46)),
gq 48 43 true (.ld1 (.tmp 47)),
gq 49 43 true (.mov (.tmp 1)),
gq 50 43 true (.mov (.tmp 6)),
gq 51 43 true (.ixs 5 (.tmp 49) (.tmp 50)),
gq 52 43 true (.fad 3 (.tmp 51)),
gq 53 43 true (.ld1 (.tmp 52)),
gq 54 43 true (.bin .neq (.tmp 48) (.tmp 53)),
oq 55 (.pick (.tmp 43) (.tmp 54) (.const (.bool false)))]) (.cond (.tmp 55) (.seq (.ops false [
oq 4 (.mov (.const (.bool false)))]) .ret) .skip))) (.ops false [
oq 17 (.mov (.tmp 6)),
oq 18 (.bin .add (.tmp 17) (cq 1)),
oq 6 (.mov (.tmp 18))]))))))) (.ops false [
oq 11 (.mov (.tmp 5)),
oq 12 (.bin .add (.tmp 11) (cq 1)),
oq 5 (.mov (.tmp 12))])))))) (.seq (.ops false [
oq 4 (.mov (.const (.bool true)))]) .ret))) }
theorem t24 : tabP Try.prog 0 24 = some ic24 := by kernel_rfl
/-- bandplan/demand.Total -/
def ic25 : IFn := { ntmps := 42, results := [.tmp 4, .tmp 5], code := (.seq (.ops false [
oq 4 (.mov (.const (Value.slice none 0 0))),
oq 5 (.mov (cq 0))]) (.seq (.seq (.ops false [
oq 11 (.mov (.tmp 0)),
oq 12 (.mov (.tmp 1)),
oq 13 (.call (.func 37) [.tmp 11, .tmp 12]),
oq 14 (.una .not (.tmp 13))]) (.cond (.tmp 14) (.seq (.ops false [
oq 4 (.mov (.const (Value.slice none 0 0))),
oq 5 (.mov (.const (.int .i64 2)))]) .ret) .skip)) (.seq (.ops false [
oq 15 (.mov (.tmp 0)),
oq 16 (.len .sl (.tmp 15)),
oq 17 (.mks 1 8 [.int .i64 0] (.tmp 16) (.tmp 16)),
oq 6 (.mov (.tmp 17))]) (.seq (.seq (.ops false [
oq 18 (.mov (.tmp 1)),
oq 19 (.len .sl (.tmp 18)),
oq 20 (.mov (cq 0))]) (.block 0 (.loop (.seq (.ops false [
oq 21 (.bin .lss (.tmp 20) (.tmp 19))]) (.seq (.cond (.tmp 21) .skip (.exit 0)) (.seq (.block 1 (.seq (.ops false [
oq 22 (.ixs 4 (.tmp 18) (.tmp 20)),
oq 23 (.ldn 4 (.tmp 22)),
oq 8 (.new [.int .i64 0, .int .i64 0, .int .i64 0, .slice none 0 0]),
⟨none, none, false, .sto 4 (.tmp 8) (.tmp 23)⟩]) (.seq (.ops false [
oq 24 (.fad 3 (.tmp 8)),
oq 25 (.ld1 (.tmp 24)),
oq 26 (.len .sl (.tmp 25)),
oq 27 (.mov (cq 0))]) (.block 2 (.loop (.seq (.ops false [
oq 28 (.bin .lss (.tmp 27) (.tmp 26))]) (.seq (.cond (.tmp 28) .skip (.exit 2)) (.seq (.block 3 (.seq (.ops false [
oq 29 (.mov (.tmp 27)),
oq 30 (.ixs 1 (.tmp 25) (.tmp 27)),
oq 31 (.ld1 (.tmp 30)),
oq 9 (.mov (.tmp 29)),
oq 10 (.mov (.tmp 31))]) (.ops false [
oq 32 (.mov (.tmp 6)),
oq 33 (.mov (.tmp 9)),
oq 34 (.ixs 1 (.tmp 32) (.tmp 33)),
oq 35 (.ld1 (.tmp 34)),
oq 36 (.mov (.tmp 10)),
oq 37 (.bin .add (.tmp 35) (.tmp 36)),
oq 38 (.ixs 1 (.tmp 32) (.tmp 33)),
⟨none, none, false, .sto 1 (.tmp 38) (.tmp 37)⟩]))) (.ops false [
oq 39 (.bin .add (.tmp 27) (cq 1)),
oq 27 (.mov (.tmp 39))]))))))))) (.ops false [
oq 40 (.bin .add (.tmp 20) (cq 1)),
oq 20 (.mov (.tmp 40))]))))))) (.seq (.ops false [
oq 41 (.mov (.tmp 6)),
oq 4 (.mov (.tmp 41)),
oq 5 (.mov (cq 0))]) .ret))))) }
theorem t25 : tabP Try.prog 0 25 = some ic25 := by kernel_rfl
/-- bandplan/product.Valid -/
def ic26 : IFn := { ntmps := 68, results := [.tmp 2], code := (.seq (.ops false [
oq 2 (.mov (.const (.bool false)))]) (.seq (.seq (.ops false [
oq 5 (.mov (.tmp 0)),
oq 6 (.len .sl (.tmp 5)),
oq 7 (.mov (cq 0))]) (.block 0 (.loop (.seq (.ops false [
oq 8 (.bin .lss (.tmp 7) (.tmp 6))]) (.seq (.cond (.tmp 8) .skip (.exit 0)) (.seq (.block 1 (.seq (.ops false [
oq 9 (.mov (.tmp 7)),
oq 10 (.ixs 5 (.tmp 5) (.tmp 7)),
oq 11 (.ldn 5 (.tmp 10)),
oq 4 (.new [.int .i64 0, .int .i64 0, .int .i64 0, .int .i64 0, .int .i64 0]),
oq 3 (.mov (.tmp 9)),
⟨none, none, false, .sto 5 (.tmp 4) (.tmp 11)⟩]) (.seq (.seq (.ops false [
oq 12 (.fad 0 (.tmp 4)),
oq 13 (.ld1 (.tmp 12)),
oq 14 (.call (.func 38) [.tmp 13, cq 0, .const (.int .i64 63)]),
oq 15 (.una .not (.tmp 14)),
oq 16 (.mov (.tmp 15)),
gq 17 16 false (.fad 1 (.tmp 4)),
gq 18 16 false (.ld1 (.tmp 17)),
gq 19 16 false (.call (.func 38) [.tmp 18, cq 1, .const (.int .i64 2)]),
gq 20 16 false (.una .not (.tmp 19)),
oq 21 (.pick (.tmp 16) (.const (.bool true)) (.tmp 20)),
oq 22 (.mov (.tmp 21)),
gq 23 22 false (.fad 2 (.tmp 4)),
gq 24 22 false (.ld1 (.tmp 23)),
gq 25 22 false (.call (.func 38) [.tmp 24, cq 1, .const (.int .i64 12)]),
gq 26 22 false (.una .not (.tmp 25)),
oq 27 (.pick (.tmp 22) (.const (.bool true)) (.tmp 26)),
oq 28 (.mov (.tmp 27)),
gq 29 28 false (.fad 3 (.tmp 4)),
gq 30 28 false (.ld1 (.tmp 29)),
gq 31 28 false (.call (.func 38) [.tmp 30, cq 1, .const (.int .i64 100000)]),
gq 32 28 false (.una .not (.tmp 31)),
oq 33 (.pick (.tmp 28) (.const (.bool true)) (.tmp 32)),
oq 34 (.mov (.tmp 33)),
gq 35 34 false (.fad 4 (.tmp 4)),
gq 36 34 false (.ld1 (.tmp 35)),
gq 37 34 false (.call (.func 38) [.tmp 36, cq 0, .const (.int .i64 549755813888)]),
gq 38 34 false (.una .not (.tmp 37)),
oq 39 (.pick (.tmp 34) (.const (.bool true)) (.tmp 38))]) (.cond (.tmp 39) (.seq (.ops false [
oq 2 (.mov (.const (.bool false)))]) .ret) .skip)) (.seq (.ops true [
oq 40 (.mov (.tmp 3)),
oq 41 (.bin .gtr (.tmp 40) (cq 0)),
oq 42 (.mov (.tmp 41)),
gq 43 42 true (.mov (.tmp 0)),
gq 44 42 true (.mov (.tmp 3)),
gq 45 42 true (.bin .sub (.tmp 44) (cq 1)),
gq 46 42 true (.ixs 5 (.tmp 43) (.tmp 45)),
gq 47 42 true (.fad 0 (.tmp 46)),
gq 48 42 true (.ld1 (.tmp 47)),
gq 49 42 true (.fad 0 (.tmp 4)),
gq 50 42 true (.ld1 (.tmp 49)),
gq 51 42 true (.bin .eql (.tmp 48) (.tmp 50)),
oq 52 (.pick (.tmp 42) (.tmp 51) (.const (.bool false))),
oq 53 (.mov (.tmp 52)),
gq 54 53 true (.mov (.tmp 0)),
gq 55 53 true (.mov (.tmp 3)),
gq 56 53 true (.bin .sub (.tmp 55) (cq 1)),
gq 57 53 true (.ixs 5 (.tmp 54) (.tmp 56)),
gq 58 53 true (.fad 2 (.tmp 57)),
gq 59 53 true (.ld1 (.tmp 58)),
gq 60 53 true (.fad 2 (.tmp 4)),
gq 61 53 true (.ld1 (.tmp 60)),
gq 62 53 true (.bin .add (.tmp 59) (.tmp 61)),
gq 63 53 true (.bin .gtr (.tmp 62) (.const (.int .i64 12))),
oq 64 (.pick (.tmp 53) (.tmp 63) (.const (.bool false)))]) (.cond (.tmp 64) (.seq (.ops false [
oq 2 (.mov (.const (.bool false)))]) .ret) .skip))))) (.ops false [
oq 65 (.bin .add (.tmp 7) (cq 1)),
oq 7 (.mov (.tmp 65))]))))))) (.seq (.ops false [
oq 66 (.mov (.tmp 0)),
oq 67 (.call (.func 39) [.tmp 66, .func 40]),
oq 2 (.mov (.tmp 67))]) .ret))) }
theorem t26 : tabP Try.prog 0 26 = some ic26 := by kernel_rfl
/-- bandplan/bandplanref33.Valid -/
def ic27 : IFn := { ntmps := 98, results := [.tmp 2], code := (.seq (.ops false [
oq 2 (.mov (.const (.bool false)))]) (.seq (.seq (.ops false [
oq 3 (.mov (cq 0))]) (.block 0 (.loop (.seq (.seq (.ops false [
oq 6 (.mov (.tmp 3)),
oq 7 (.mov (.tmp 0)),
oq 8 (.len .sl (.tmp 7)),
oq 9 (.bin .lss (.tmp 6) (.tmp 8))]) (.cond (.tmp 9) .skip (.exit 0))) (.seq (.block 1 (.seq (.ops false [
oq 12 (.mov (.tmp 0)),
oq 13 (.mov (.tmp 3)),
oq 14 (.ixs 5 (.tmp 12) (.tmp 13)),
oq 15 (.ldn 5 (.tmp 14)),
oq 4 (.new [.int .i64 0, .int .i64 0, .int .i64 0, .int .i64 0, .int .i64 0]),
⟨none, none, false, .sto 5 (.tmp 4) (.tmp 15)⟩]) (.seq (.seq (.ops false [
oq 16 (.fad 0 (.tmp 4)),
oq 17 (.ld1 (.tmp 16)),
oq 18 (.bin .lss (.tmp 17) (cq 0)),
oq 19 (.mov (.tmp 18)),
gq 20 19 false (.fad 0 (.tmp 4)),
gq 21 19 false (.ld1 (.tmp 20)),
gq 22 19 false (.bin .gtr (.tmp 21) (.const (.int .i64 63))),
oq 23 (.pick (.tmp 19) (.const (.bool true)) (.tmp 22)),
oq 24 (.mov (.tmp 23)),
gq 25 24 false (.fad 1 (.tmp 4)),
gq 26 24 false (.ld1 (.tmp 25)),
gq 27 24 false (.bin .lss (.tmp 26) (cq 1)),
oq 28 (.pick (.tmp 24) (.const (.bool true)) (.tmp 27)),
oq 29 (.mov (.tmp 28)),
gq 30 29 false (.fad 1 (.tmp 4)),
gq 31 29 false (.ld1 (.tmp 30)),
gq 32 29 false (.bin .gtr (.tmp 31) (.const (.int .i64 2))),
oq 33 (.pick (.tmp 29) (.const (.bool true)) (.tmp 32)),
oq 34 (.mov (.tmp 33)),
gq 35 34 false (.fad 2 (.tmp 4)),
gq 36 34 false (.ld1 (.tmp 35)),
gq 37 34 false (.bin .lss (.tmp 36) (cq 1)),
oq 38 (.pick (.tmp 34) (.const (.bool true)) (.tmp 37)),
oq 39 (.mov (.tmp 38)),
gq 40 39 false (.fad 2 (.tmp 4)),
gq 41 39 false (.ld1 (.tmp 40)),
gq 42 39 false (.bin .gtr (.tmp 41) (.const (.int .i64 12))),
oq 43 (.pick (.tmp 39) (.const (.bool true)) (.tmp 42)),
oq 44 (.mov (.tmp 43)),
gq 45 44 false (.fad 3 (.tmp 4)),
gq 46 44 false (.ld1 (.tmp 45)),
gq 47 44 false (.bin .lss (.tmp 46) (cq 1)),
oq 48 (.pick (.tmp 44) (.const (.bool true)) (.tmp 47)),
oq 49 (.mov (.tmp 48)),
gq 50 49 false (.fad 3 (.tmp 4)),
gq 51 49 false (.ld1 (.tmp 50)),
gq 52 49 false (.bin .gtr (.tmp 51) (.const (.int .i64 100000))),
oq 53 (.pick (.tmp 49) (.const (.bool true)) (.tmp 52)),
oq 54 (.mov (.tmp 53)),
gq 55 54 false (.fad 4 (.tmp 4)),
gq 56 54 false (.ld1 (.tmp 55)),
gq 57 54 false (.bin .lss (.tmp 56) (cq 0)),
oq 58 (.pick (.tmp 54) (.const (.bool true)) (.tmp 57)),
oq 59 (.mov (.tmp 58)),
gq 60 59 false (.fad 4 (.tmp 4)),
gq 61 59 false (.ld1 (.tmp 60)),
gq 62 59 false (.bin .gtr (.tmp 61) (.const (.int .i64 549755813888))),
oq 63 (.pick (.tmp 59) (.const (.bool true)) (.tmp 62))]) (.cond (.tmp 63) (.seq (.ops false [
oq 2 (.mov (.const (.bool false)))]) .ret) .skip)) (.seq (.ops false [
oq 64 (.mov (.tmp 3)),
oq 65 (.bin .gtr (.tmp 64) (cq 0))]) (.cond (.tmp 65) (.seq (.ops false [
oq 66 (.mov (.tmp 0)),
oq 67 (.mov (.tmp 3)),
oq 68 (.bin .sub (.tmp 67) (cq 1)),
oq 69 (.ixs 5 (.tmp 66) (.tmp 68)),
oq 70 (.ldn 5 (.tmp 69)),
oq 5 (.new [.int .i64 0, .int .i64 0, .int .i64 0, .int .i64 0, .int .i64 0]),
⟨none, none, false, .sto 5 (.tmp 5) (.tmp 70)⟩]) (.seq (.ops false [
oq 71 (.fad 0 (.tmp 4)),
oq 72 (.ld1 (.tmp 71)),
oq 73 (.fad 0 (.tmp 5)),
oq 74 (.ld1 (.tmp 73)),
oq 75 (.bin .lss (.tmp 72) (.tmp 74)),
oq 76 (.mov (.tmp 75)),
gq 77 76 false (.fad 0 (.tmp 4)),
gq 78 76 false (.ld1 (.tmp 77)),
gq 79 76 false (.fad 0 (.tmp 5)),
gq 80 76 false (.ld1 (.tmp 79)),
gq 81 76 false (.bin .eql (.tmp 78) (.tmp 80)),
gq 82 76 false (.mov (.tmp 81)),
gq 83 82 true (.fad 1 (.tmp 4)),
gq 84 82 true (.ld1 (.tmp 83)),
gq 85 82 true (.fad 1 (.tmp 5)),
gq 86 82 true (.ld1 (.tmp 85)),
gq 87 82 true (.bin .leq (.tmp 84) (.tmp 86)),
gq 88 82 true (.mov (.tmp 87)),
gq 89 88 false (.fad 2 (.tmp 4)),
gq 90 88 false (.ld1 (.tmp 89)),
gq 91 88 false (.fad 2 (.tmp 5)),
gq 92 88 false (.ld1 (.tmp 91)),
gq 93 88 false (.bin .add (.tmp 90) (.tmp 92)),
gq 94 88 false (.bin .gtr (.tmp 93) (.const (.int .i64 12))),
gq 95 82 true (.pick (.tmp 88) (.const (.bool true)) (.tmp 94)),
gq 96 76 false (.pick (.tmp 82) (.tmp 95) (.const (.bool false))),
oq 97 (.pick (.tmp 76) (.const (.bool true)) (.tmp 96))]) (.cond (.tmp 97) (.seq (.ops false [
oq 2 (.mov (.const (.bool false)))]) .ret) .skip))) .skip))))) (.ops false [
oq 10 (.mov (.tmp 3)),
oq 11 (.bin .add (.tmp 10) (cq 1)),
oq 3 (.mov (.tmp 11))])))))) (.seq (.ops false [
oq 2 (.mov (.const (.bool true)))]) .ret))) }
theorem t27 : tabP Try.prog 0 27 = some ic27 := by kernel_rfl
/-- bandplan/demand.sum -/
def ic28 : IFn := { ntmps := 24, results := [.tmp 4], code := (.seq (.ops false [
oq 4 (.mov (cq 0))]) (.seq (.ops false [
oq 5 (.mov (cq 0))]) (.seq (.seq (.ops false [
oq 8 (.mov (.tmp 0)),
oq 9 (.len .sl (.tmp 8)),
oq 10 (.mov (cq 0))]) (.block 0 (.loop (.seq (.ops false [
oq 11 (.bin .lss (.tmp 10) (.tmp 9))]) (.seq (.cond (.tmp 11) .skip (.exit 0)) (.seq (.block 1 (.seq (.ops false [
oq 12 (.mov (.tmp 10)),
oq 13 (.ixs 1 (.tmp 8) (.tmp 10)),
oq 14 (.ld1 (.tmp 13)),
oq 6 (.mov (.tmp 12)),
oq 7 (.mov (.tmp 14))]) (.ops false [
oq 15 (.mov (.tmp 5)),
oq 16 (.mov (.tmp 7)),
oq 17 (.mov (.tmp 1)),
oq 18 (.mov (.tmp 6)),
oq 19 (.call (.tmp 17) [.tmp 18]),
oq 20 (.bin .mul (.tmp 16) (.tmp 19)),
oq 21 (.bin .add (.tmp 15) (.tmp 20)),
oq 5 (.mov (.tmp 21))]))) (.ops false [
oq 22 (.bin .add (.tmp 10) (cq 1)),
oq 10 (.mov (.tmp 22))]))))))) (.seq (.ops false [
oq 23 (.mov (.tmp 5)),
oq 4 (.mov (.tmp 23))]) .ret)))) }
theorem t28 : tabP Try.prog 0 28 = some ic28 := by kernel_rfl
/-- bandplan/demand.Units$1 -/
def ic29 : IFn := { ntmps := 9, results := [.tmp 3], code := (.seq (.ops false [
oq 3 (.mov (cq 0))]) (.seq (.ops false [
oq 4 (.ld1 (.tmp 1)),
oq 5 (.mov (.tmp 0)),
oq 6 (.ixs 5 (.tmp 4) (.tmp 5)),
oq 7 (.fad 3 (.tmp 6)),
oq 8 (.ld1 (.tmp 7)),
oq 3 (.mov (.tmp 8))]) .ret)) }
theorem t29 : tabP Try.prog 0 29 = some ic29 := by kernel_rfl
/-- bandplan/bandplanref34.Sum -/
def ic30 : IFn := { ntmps := 31, results := [.tmp 4], code := (.seq (.ops false [
oq 4 (.mov (cq 0))]) (.seq (.ops false [
oq 5 (.mov (cq 0))]) (.seq (.seq (.ops false [
oq 6 (.mov (cq 0))]) (.block 0 (.loop (.seq (.seq (.ops false [
oq 7 (.mov (.tmp 6)),
oq 8 (.mov (.tmp 0)),
oq 9 (.len .sl (.tmp 8)),
oq 10 (.bin .lss (.tmp 7) (.tmp 9)),
oq 11 (.mov (.tmp 10)),
gq 12 11 true (.mov (.tmp 6)),
gq 13 11 true (.mov (.tmp 1)),
gq 14 11 true (.len .sl (.tmp 13)),
gq 15 11 true (.bin .lss (.tmp 12) (.tmp 14)),
oq 16 (.pick (.tmp 11) (.tmp 15) (.const (.bool false)))]) (.cond (.tmp 16) .skip (.exit 0))) (.seq (.block 1 (.ops true [
oq 19 (.mov (.tmp 5)),
oq 20 (.mov (.tmp 0)),
oq 21 (.mov (.tmp 6)),
oq 22 (.ixs 1 (.tmp 20) (.tmp 21)),
oq 23 (.ld1 (.tmp 22)),
oq 24 (.mov (.tmp 1)),
oq 25 (.mov (.tmp 6)),
oq 26 (.ixs 1 (.tmp 24) (.tmp 25)),
oq 27 (.ld1 (.tmp 26)),
oq 28 (.bin .mul (.tmp 23) (.tmp 27)),
oq 29 (.bin .add (.tmp 19) (.tmp 28)),
oq 5 (.mov (.tmp 29))])) (.ops false [
oq 17 (.mov (.tmp 6)),
oq 18 (.bin .add (.tmp 17) (cq 1)),
oq 6 (.mov (.tmp 18))])))))) (.seq (.ops false [
oq 30 (.mov (.tmp 5)),
oq 4 (.mov (.tmp 30))]) .ret)))) }
theorem t30 : tabP Try.prog 0 30 = some ic30 := by kernel_rfl
/-- bandplan/bandplanref34.Weights -/
def ic31 : IFn := { ntmps := 20, results := [.tmp 2], code := (.seq (.ops false [
oq 2 (.mov (.const (Value.slice none 0 0)))]) (.seq (.ops false [
oq 3 (.mov (.const (Value.slice none 0 0)))]) (.seq (.seq (.ops false [
oq 4 (.mov (cq 0))]) (.block 0 (.loop (.seq (.seq (.ops false [
oq 5 (.mov (.tmp 4)),
oq 6 (.mov (.tmp 0)),
oq 7 (.len .sl (.tmp 6)),
oq 8 (.bin .lss (.tmp 5) (.tmp 7))]) (.cond (.tmp 8) .skip (.exit 0))) (.seq (.block 1 (.ops false [
oq 11 (.mov (.tmp 3)),
oq 12 (.mov (.tmp 0)),
oq 13 (.mov (.tmp 4)),
oq 14 (.ixs 5 (.tmp 12) (.tmp 13)),
oq 15 (.fad 3 (.tmp 14)),
oq 16 (.ld1 (.tmp 15)),
oq 17 (.bsl 1 [.int .i64 0] [(0, 1, .tmp 16)]),
oq 18 (.app 1 8 (.tmp 11) (.tmp 17)),
oq 3 (.mov (.tmp 18))])) (.ops false [
oq 9 (.mov (.tmp 4)),
oq 10 (.bin .add (.tmp 9) (cq 1)),
oq 4 (.mov (.tmp 10))])))))) (.seq (.ops false [
oq 19 (.mov (.tmp 3)),
oq 2 (.mov (.tmp 19))]) .ret)))) }
theorem t31 : tabP Try.prog 0 31 = some ic31 := by kernel_rfl
/-- bandplan/demand.Cost$1 -/
def ic32 : IFn := { ntmps := 8, results := [.tmp 3], code := (.seq (.ops false [
oq 3 (.mov (cq 0))]) (.seq (.ops false [
oq 4 (.ld1 (.tmp 1)),
oq 5 (.mov (.tmp 0)),
oq 6 (.ixs 1 (.tmp 4) (.tmp 5)),
oq 7 (.ld1 (.tmp 6)),
oq 3 (.mov (.tmp 7))]) .ret)) }
theorem t32 : tabP Try.prog 0 32 = some ic32 := by kernel_rfl
/-- bandplan/bandplanref34.Prices -/
def ic33 : IFn := { ntmps := 28, results := [.tmp 4], code := (.seq (.ops false [
oq 4 (.mov (.const (.bool false)))]) (.seq (.seq (.ops false [
oq 5 (.mov (cq 0))]) (.block 0 (.loop (.seq (.seq (.ops false [
oq 6 (.mov (.tmp 5)),
oq 7 (.mov (.tmp 0)),
oq 8 (.len .sl (.tmp 7)),
oq 9 (.bin .lss (.tmp 6) (.tmp 8))]) (.cond (.tmp 9) .skip (.exit 0))) (.seq (.block 1 (.seq (.ops false [
oq 12 (.mov (.tmp 0)),
oq 13 (.mov (.tmp 5)),
oq 14 (.ixs 1 (.tmp 12) (.tmp 13)),
oq 15 (.ld1 (.tmp 14)),
oq 16 (.bin .lss (.tmp 15) (cq 0)),
oq 17 (.mov (.tmp 16)),
gq 18 17 false (.mov (.tmp 0)),
gq 19 17 false (.mov (.tmp 5)),
gq 20 17 false (.ixs 1 (.tmp 18) (.tmp 19)),
gq 21 17 false (.ld1 (.tmp 20)),
gq 22 17 false (.bin .gtr (.tmp 21) (.const (.int .i64 549755813888))),
oq 23 (.pick (.tmp 17) (.const (.bool true)) (.tmp 22))]) (.cond (.tmp 23) (.seq (.ops false [
oq 4 (.mov (.const (.bool false)))]) .ret) .skip))) (.ops false [
oq 10 (.mov (.tmp 5)),
oq 11 (.bin .add (.tmp 10) (cq 1)),
oq 5 (.mov (.tmp 11))])))))) (.seq (.ops false [
oq 24 (.mov (.tmp 0)),
oq 25 (.len .sl (.tmp 24)),
oq 26 (.mov (.tmp 1)),
oq 27 (.bin .eql (.tmp 25) (.tmp 26)),
oq 4 (.mov (.tmp 27))]) .ret))) }
theorem t33 : tabP Try.prog 0 33 = some ic33 := by kernel_rfl
/-- slices.ContainsFunc[[]int,int] -/
def ic34 : IFn := { ntmps := 9, results := [.tmp 4], code := (.seq (.ops false [
oq 4 (.mov (.const (.bool false)))]) (.seq (.ops false [
oq 5 (.mov (.tmp 0)),
oq 6 (.mov (.tmp 1)),
oq 7 (.call (.func 43) [.tmp 5, .tmp 6]),
oq 8 (.bin .geq (.tmp 7) (cq 0)),
oq 4 (.mov (.tmp 8))]) .ret)) }
theorem t34 : tabP Try.prog 0 34 = some ic34 := by kernel_rfl
/-- bandplan/demand.Excess$1 -/
def ic35 : IFn := { ntmps := 9, results := [.tmp 2], code := (.seq (.ops false [
oq 2 (.mov (.const (.bool false)))]) (.seq (.ops false [
oq 3 (.mov (.tmp 0)),
oq 4 (.bin .lss (.tmp 3) (cq 0)),
oq 5 (.mov (.tmp 4)),
gq 6 5 false (.mov (.tmp 0)),
gq 7 5 false (.bin .gtr (.tmp 6) (.const (.int .i64 384))),
oq 8 (.pick (.tmp 5) (.const (.bool true)) (.tmp 7)),
oq 2 (.mov (.tmp 8))]) .ret)) }
theorem t35 : tabP Try.prog 0 35 = some ic35 := by kernel_rfl
/-- slices.Clone[[]int,int] -/
def ic36 : IFn := { ntmps := 8, results := [.tmp 2], code := (.seq (.ops false [
oq 2 (.mov (.const (Value.slice none 0 0)))]) (.seq (.seq (.ops false [
oq 3 (.mov (.tmp 0)),
oq 4 (.eq .sli false (.tmp 3) (.const (Value.slice none 0 0)))]) (.cond (.tmp 4) (.seq (.ops false [
oq 2 (.mov (.const (Value.slice none 0 0)))]) .ret) .skip)) (.seq (.ops false [
oq 5 (.bsl 0 [] []),
oq 6 (.mov (.tmp 0)),
oq 7 (.app 1 8 (.tmp 5) (.tmp 6)),
oq 2 (.mov (.tmp 7))]) .ret))) }
theorem t36 : tabP Try.prog 0 36 = some ic36 := by kernel_rfl
/-- bandplan/demand.ValidBidders -/
def ic37 : IFn := { ntmps := 34, results := [.tmp 4], code := (.seq (.ops false [
oq 4 (.mov (.const (.bool false)))]) (.seq (.ops false [
oq 5 (.mov (.const (.int .i64 (-1))))]) (.seq (.seq (.ops false [
oq 8 (.mov (.tmp 1)),
oq 9 (.len .sl (.tmp 8)),
oq 10 (.mov (cq 0))]) (.block 0 (.loop (.seq (.ops false [
oq 11 (.bin .lss (.tmp 10) (.tmp 9))]) (.seq (.cond (.tmp 11) .skip (.exit 0)) (.seq (.block 1 (.seq (.ops false [
oq 12 (.ixs 4 (.tmp 8) (.tmp 10)),
oq 13 (.ldn 4 (.tmp 12)),
oq 7 (.new [.int .i64 0, .int .i64 0, .int .i64 0, .slice none 0 0]),
⟨none, none, false, .sto 4 (.tmp 7) (.tmp 13)⟩]) (.seq (.seq (.ops false [
oq 14 (.fad 0 (.tmp 7)),
oq 15 (.ld1 (.tmp 14)),
oq 16 (.mov (.tmp 5)),
oq 17 (.bin .leq (.tmp 15) (.tmp 16)),
oq 18 (.mov (.tmp 17)),
gq 19 18 false (.fad 0 (.tmp 7)),
gq 20 18 false (.ld1 (.tmp 19)),
gq 21 18 false (.bin .geq (.tmp 20) (.const (.int .i64 32))),
oq 22 (.pick (.tmp 18) (.const (.bool true)) (.tmp 21)),
oq 23 (.mov (.tmp 22)),
gq 24 23 false (.mov (.tmp 0)),
gq 25 23 false (.ldn 4 (.tmp 7)),
gq 26 23 false (.call (.func 44) [.tmp 24, .tmp 25]),
gq 27 23 false (.una .not (.tmp 26)),
oq 28 (.pick (.tmp 23) (.const (.bool true)) (.tmp 27))]) (.cond (.tmp 28) (.seq (.ops false [
oq 4 (.mov (.const (.bool false)))]) .ret) .skip)) (.ops false [
oq 29 (.fad 0 (.tmp 7)),
oq 30 (.ld1 (.tmp 29)),
oq 5 (.mov (.tmp 30))])))) (.ops false [
oq 31 (.bin .add (.tmp 10) (cq 1)),
oq 10 (.mov (.tmp 31))]))))))) (.seq (.ops false [
oq 32 (.mov (.tmp 0)),
oq 33 (.call (.func 26) [.tmp 32]),
oq 4 (.mov (.tmp 33))]) .ret)))) }
theorem t37 : tabP Try.prog 0 37 = some ic37 := by kernel_rfl
/-- bandplan/product.between -/
def ic38 : IFn := { ntmps := 15, results := [.tmp 6], code := (.seq (.ops false [
oq 6 (.mov (.const (.bool false)))]) (.seq (.ops false [
oq 7 (.mov (.tmp 0)),
oq 8 (.mov (.tmp 1)),
oq 9 (.bin .geq (.tmp 7) (.tmp 8)),
oq 10 (.mov (.tmp 9)),
gq 11 10 true (.mov (.tmp 0)),
gq 12 10 true (.mov (.tmp 2)),
gq 13 10 true (.bin .leq (.tmp 11) (.tmp 12)),
oq 14 (.pick (.tmp 10) (.tmp 13) (.const (.bool false))),
oq 6 (.mov (.tmp 14))]) .ret)) }
theorem t38 : tabP Try.prog 0 38 = some ic38 := by kernel_rfl
/-- bandplan/product.rising[bandplan/api.Product] -/
def ic39 : IFn := { ntmps := 24, results := [.tmp 4], code := (.seq (.ops false [
oq 4 (.mov (.const (.bool false)))]) (.seq (.seq (.ops false [
oq 5 (.mov (cq 1))]) (.block 0 (.loop (.seq (.seq (.ops false [
oq 6 (.mov (.tmp 5)),
oq 7 (.mov (.tmp 0)),
oq 8 (.len .sl (.tmp 7)),
oq 9 (.bin .lss (.tmp 6) (.tmp 8))]) (.cond (.tmp 9) .skip (.exit 0))) (.seq (.block 1 (.seq (.ops true [
oq 12 (.mov (.tmp 1)),
oq 13 (.mov (.tmp 0)),
oq 14 (.mov (.tmp 5)),
oq 15 (.bin .sub (.tmp 14) (cq 1)),
oq 16 (.ixs 5 (.tmp 13) (.tmp 15)),
oq 17 (.ldn 5 (.tmp 16)),
oq 18 (.mov (.tmp 0)),
oq 19 (.mov (.tmp 5)),
oq 20 (.ixs 5 (.tmp 18) (.tmp 19)),
oq 21 (.ldn 5 (.tmp 20)),
oq 22 (.call (.tmp 12) [.tmp 17, .tmp 21]),
oq 23 (.bin .geq (.tmp 22) (cq 0))]) (.cond (.tmp 23) (.seq (.ops false [
oq 4 (.mov (.const (.bool false)))]) .ret) .skip))) (.ops false [
oq 10 (.mov (.tmp 5)),
oq 11 (.bin .add (.tmp 10) (cq 1)),
oq 5 (.mov (.tmp 11))])))))) (.seq (.ops false [
oq 4 (.mov (.const (.bool true)))]) .ret))) }
theorem t39 : tabP Try.prog 0 39 = some ic39 := by kernel_rfl
/-- bandplan/product.Valid$1 -/
def ic40 : IFn := { ntmps := 17, results := [.tmp 4], code := (.seq (.ops false [
oq 2 (.box 5 (.tmp 0)),
oq 3 (.box 5 (.tmp 1)),
oq 4 (.mov (cq 0))]) (.seq (.ops true [
oq 5 (.fad 0 (.tmp 2)),
oq 6 (.ld1 (.tmp 5)),
oq 7 (.fad 0 (.tmp 3)),
oq 8 (.ld1 (.tmp 7)),
⟨some 9, none, true, .call (.func 42) [.tmp 6, .tmp 8]⟩,
oq 10 (.fad 1 (.tmp 2)),
oq 11 (.ld1 (.tmp 10)),
oq 12 (.fad 1 (.tmp 3)),
oq 13 (.ld1 (.tmp 12)),
oq 14 (.call (.func 42) [.tmp 11, .tmp 13]),
oq 15 (.bsl 2 [.int .i64 0, .int .i64 0] [(0, 1, .tmp 9), (1, 1, .tmp 14)]),
oq 16 (.call (.func 41) [.tmp 15]),
oq 4 (.mov (.tmp 16))]) .ret)) }
theorem t40 : tabP Try.prog 0 40 = some ic40 := by kernel_rfl
/-- cmp.Or[int] -/
def ic41 : IFn := { ntmps := 18, results := [.tmp 2], code := (.seq (.ops false [
oq 2 (.mov (cq 0))]) (.seq (.ops false [
oq 3 (.mov (cq 0))]) (.seq (.seq (.ops false [
oq 6 (.mov (.tmp 0)),
oq 7 (.len .sl (.tmp 6)),
oq 8 (.mov (cq 0))]) (.block 0 (.loop (.seq (.ops false [
oq 9 (.bin .lss (.tmp 8) (.tmp 7))]) (.seq (.cond (.tmp 9) .skip (.exit 0)) (.seq (.block 1 (.seq (.ops false [
oq 10 (.ixs 1 (.tmp 6) (.tmp 8)),
oq 11 (.ld1 (.tmp 10)),
oq 5 (.mov (.tmp 11))]) (.seq (.ops false [
oq 12 (.mov (.tmp 5)),
oq 13 (.mov (.tmp 3)),
oq 14 (.bin .neq (.tmp 12) (.tmp 13))]) (.cond (.tmp 14) (.seq (.ops false [
oq 15 (.mov (.tmp 5)),
oq 2 (.mov (.tmp 15))]) .ret) .skip)))) (.ops false [
oq 16 (.bin .add (.tmp 8) (cq 1)),
oq 8 (.mov (.tmp 16))]))))))) (.seq (.ops false [
oq 17 (.mov (.tmp 3)),
oq 2 (.mov (.tmp 17))]) .ret)))) }
theorem t41 : tabP Try.prog 0 41 = some ic41 := by kernel_rfl
/-- cmp.Compare[int] -/
def ic42 : IFn := { ntmps := 20, results := [.tmp 4], code := (.seq (.ops false [
oq 4 (.mov (cq 0))]) (.seq (.ops false [
oq 7 (.mov (.tmp 0)),
oq 8 (.call (.func 45) [.tmp 7]),
oq 5 (.mov (.tmp 8))]) (.seq (.ops false [
oq 9 (.mov (.tmp 1)),
oq 10 (.call (.func 45) [.tmp 9]),
oq 6 (.mov (.tmp 10))]) (.seq (.seq (.ops false [
oq 11 (.mov (.tmp 5))]) (.cond (.tmp 11) (.seq (.seq (.ops false [
oq 12 (.mov (.tmp 6))]) (.cond (.tmp 12) (.seq (.ops false [
oq 4 (.mov (cq 0))]) .ret) .skip)) (.seq (.ops false [
oq 4 (.mov (.const (.int .i64 (-1))))]) .ret)) .skip)) (.seq (.seq (.ops false [
oq 13 (.mov (.tmp 6))]) (.cond (.tmp 13) (.seq (.ops false [
oq 4 (.mov (cq 1))]) .ret) .skip)) (.seq (.seq (.ops false [
oq 14 (.mov (.tmp 0)),
oq 15 (.mov (.tmp 1)),
oq 16 (.bin .lss (.tmp 14) (.tmp 15))]) (.cond (.tmp 16) (.seq (.ops false [
oq 4 (.mov (.const (.int .i64 (-1))))]) .ret) .skip)) (.seq (.seq (.ops false [
oq 17 (.mov (.tmp 0)),
oq 18 (.mov (.tmp 1)),
oq 19 (.bin .gtr (.tmp 17) (.tmp 18))]) (.cond (.tmp 19) (.seq (.ops false [
oq 4 (.mov (cq 1))]) .ret) .skip)) (.seq (.ops false [
oq 4 (.mov (cq 0))]) .ret)))))))) }
theorem t42 : tabP Try.prog 0 42 = some ic42 := by kernel_rfl
/-- slices.IndexFunc[[]int,int] -/
def ic43 : IFn := { ntmps := 19, results := [.tmp 4], code := (.seq (.ops false [
oq 4 (.mov (cq 0))]) (.seq (.seq (.ops false [
oq 6 (.mov (.tmp 0)),
oq 7 (.len .sl (.tmp 6)),
oq 8 (.mov (cq 0))]) (.block 0 (.loop (.seq (.ops false [
oq 9 (.bin .lss (.tmp 8) (.tmp 7))]) (.seq (.cond (.tmp 9) .skip (.exit 0)) (.seq (.block 1 (.seq (.ops false [
oq 10 (.mov (.tmp 8)),
oq 5 (.mov (.tmp 10))]) (.seq (.ops false [
oq 11 (.mov (.tmp 1)),
oq 12 (.mov (.tmp 0)),
oq 13 (.mov (.tmp 5)),
oq 14 (.ixs 1 (.tmp 12) (.tmp 13)),
oq 15 (.ld1 (.tmp 14)),
oq 16 (.call (.tmp 11) [.tmp 15])]) (.cond (.tmp 16) (.seq (.ops false [
oq 17 (.mov (.tmp 5)),
oq 4 (.mov (.tmp 17))]) .ret) .skip)))) (.ops false [
oq 18 (.bin .add (.tmp 8) (cq 1)),
oq 8 (.mov (.tmp 18))]))))))) (.seq (.ops false [
oq 4 (.mov (.const (.int .i64 (-1))))]) .ret))) }
theorem t43 : tabP Try.prog 0 43 = some ic43 := by kernel_rfl
/-- bandplan/demand.valid -/
def ic44 : IFn := { ntmps := 37, results := [.tmp 4], code := (.seq (.ops false [
oq 3 (.box 4 (.tmp 1)),
oq 4 (.mov (.const (.bool false)))]) (.seq (.ops false [
oq 8 (.mov (.tmp 0)),
oq 9 (.fad 3 (.tmp 3)),
oq 10 (.ld1 (.tmp 9)),
oq 11 (.call (.func 13) [.tmp 8, .tmp 10]),
oq 7 (.mov (.tmp 11)),
oq 12 (.ext (.tmp 7) 0),
oq 13 (.ext (.tmp 7) 1),
oq 5 (.mov (.tmp 12)),
oq 6 (.mov (.tmp 13))]) (.seq (.ops false [
oq 14 (.mov (.tmp 6)),
oq 15 (.bin .eql (.tmp 14) (cq 0)),
oq 16 (.mov (.tmp 15)),
gq 17 16 true (.mov (.tmp 5)),
gq 18 16 true (.fad 1 (.tmp 3)),
gq 19 16 true (.ld1 (.tmp 18)),
gq 20 16 true (.bin .leq (.tmp 17) (.tmp 19)),
oq 21 (.pick (.tmp 16) (.tmp 20) (.const (.bool false))),
oq 22 (.mov (.tmp 21)),
gq 23 22 true (.fad 1 (.tmp 3)),
gq 24 22 true (.ld1 (.tmp 23)),
gq 25 22 true (.bin .leq (.tmp 24) (.const (.int .i64 76800000))),
oq 26 (.pick (.tmp 22) (.tmp 25) (.const (.bool false))),
oq 27 (.mov (.tmp 26)),
gq 28 27 true (.fad 2 (.tmp 3)),
gq 29 27 true (.ld1 (.tmp 28)),
gq 30 27 true (.bin .geq (.tmp 29) (cq 0)),
oq 31 (.pick (.tmp 27) (.tmp 30) (.const (.bool false))),
oq 32 (.mov (.tmp 31)),
gq 33 32 true (.fad 2 (.tmp 3)),
gq 34 32 true (.ld1 (.tmp 33)),
gq 35 32 true (.bin .leq (.tmp 34) (.const (.int .i64 3))),
oq 36 (.pick (.tmp 32) (.tmp 35) (.const (.bool false))),
oq 4 (.mov (.tmp 36))]) .ret))) }
theorem t44 : tabP Try.prog 0 44 = some ic44 := by kernel_rfl
/-- cmp.isNaN[int] -/
def ic45 : IFn := { ntmps := 6, results := [.tmp 2], code := (.seq (.ops false [
oq 2 (.mov (.const (.bool false)))]) (.seq (.ops false [
oq 3 (.mov (.tmp 0)),
oq 4 (.mov (.tmp 0)),
oq 5 (.bin .neq (.tmp 3) (.tmp 4)),
oq 2 (.mov (.tmp 5))]) .ret)) }
theorem t45 : tabP Try.prog 0 45 = some ic45 := by kernel_rfl
def full : FuncId → Option IFn
  | 3 => some ic3
  | 4 => some ic4
  | 5 => some ic5
  | 6 => some ic6
  | 7 => some ic7
  | 8 => some ic8
  | 9 => some ic9
  | 10 => some ic10
  | 11 => some ic11
  | 12 => some ic12
  | 13 => some ic13
  | 14 => some ic14
  | 15 => some ic15
  | 16 => some ic16
  | 17 => some ic17
  | 18 => some ic18
  | 19 => some ic19
  | 20 => some ic20
  | 21 => some ic21
  | 22 => some ic22
  | 23 => some ic23
  | 24 => some ic24
  | 25 => some ic25
  | 26 => some ic26
  | 27 => some ic27
  | 28 => some ic28
  | 29 => some ic29
  | 30 => some ic30
  | 31 => some ic31
  | 32 => some ic32
  | 33 => some ic33
  | 34 => some ic34
  | 35 => some ic35
  | 36 => some ic36
  | 37 => some ic37
  | 38 => some ic38
  | 39 => some ic39
  | 40 => some ic40
  | 41 => some ic41
  | 42 => some ic42
  | 43 => some ic43
  | 44 => some ic44
  | 45 => some ic45
  | _ => none
def itab : FuncId → Option IFn
  | 3 => some ic3
  | 4 => some ic4
  | 5 => some ic5
  | 6 => some ic6
  | 7 => some ic7
  | 8 => some ic8
  | 9 => some ic9
  | 11 => some ic11
  | 12 => some ic12
  | 13 => some ic13
  | 14 => some ic14
  | 15 => some ic15
  | 16 => some ic16
  | 17 => some ic17
  | 18 => some ic18
  | 19 => some ic19
  | 20 => some ic20
  | 21 => some ic21
  | 22 => some ic22
  | 23 => some ic23
  | 24 => some ic24
  | 25 => some ic25
  | 26 => some ic26
  | 27 => some ic27
  | 28 => some ic28
  | 29 => some ic29
  | 30 => some ic30
  | 31 => some ic31
  | 32 => some ic32
  | 33 => some ic33
  | 34 => some ic34
  | 35 => some ic35
  | 36 => some ic36
  | 37 => some ic37
  | 38 => some ic38
  | 39 => some ic39
  | 40 => some ic40
  | 41 => some ic41
  | 42 => some ic42
  | 43 => some ic43
  | 44 => some ic44
  | 45 => some ic45
  | _ => none
theorem fullOk (F : FuncId) (fn : IFn) (h : full F = some fn) : tabP Try.prog 0 F = some fn := by
  unfold full at h
  split at h
  · rw [← h]; exact t3
  · rw [← h]; exact t4
  · rw [← h]; exact t5
  · rw [← h]; exact t6
  · rw [← h]; exact t7
  · rw [← h]; exact t8
  · rw [← h]; exact t9
  · rw [← h]; exact t10
  · rw [← h]; exact t11
  · rw [← h]; exact t12
  · rw [← h]; exact t13
  · rw [← h]; exact t14
  · rw [← h]; exact t15
  · rw [← h]; exact t16
  · rw [← h]; exact t17
  · rw [← h]; exact t18
  · rw [← h]; exact t19
  · rw [← h]; exact t20
  · rw [← h]; exact t21
  · rw [← h]; exact t22
  · rw [← h]; exact t23
  · rw [← h]; exact t24
  · rw [← h]; exact t25
  · rw [← h]; exact t26
  · rw [← h]; exact t27
  · rw [← h]; exact t28
  · rw [← h]; exact t29
  · rw [← h]; exact t30
  · rw [← h]; exact t31
  · rw [← h]; exact t32
  · rw [← h]; exact t33
  · rw [← h]; exact t34
  · rw [← h]; exact t35
  · rw [← h]; exact t36
  · rw [← h]; exact t37
  · rw [← h]; exact t38
  · rw [← h]; exact t39
  · rw [← h]; exact t40
  · rw [← h]; exact t41
  · rw [← h]; exact t42
  · rw [← h]; exact t43
  · rw [← h]; exact t44
  · rw [← h]; exact t45
  · cases h
theorem itabOk (F : FuncId) (fn : IFn) (h : itab F = some fn) : tabP Try.prog 0 F = some fn := by
  unfold itab at h
  split at h
  · rw [← h]; exact t3
  · rw [← h]; exact t4
  · rw [← h]; exact t5
  · rw [← h]; exact t6
  · rw [← h]; exact t7
  · rw [← h]; exact t8
  · rw [← h]; exact t9
  · rw [← h]; exact t11
  · rw [← h]; exact t12
  · rw [← h]; exact t13
  · rw [← h]; exact t14
  · rw [← h]; exact t15
  · rw [← h]; exact t16
  · rw [← h]; exact t17
  · rw [← h]; exact t18
  · rw [← h]; exact t19
  · rw [← h]; exact t20
  · rw [← h]; exact t21
  · rw [← h]; exact t22
  · rw [← h]; exact t23
  · rw [← h]; exact t24
  · rw [← h]; exact t25
  · rw [← h]; exact t26
  · rw [← h]; exact t27
  · rw [← h]; exact t28
  · rw [← h]; exact t29
  · rw [← h]; exact t30
  · rw [← h]; exact t31
  · rw [← h]; exact t32
  · rw [← h]; exact t33
  · rw [← h]; exact t34
  · rw [← h]; exact t35
  · rw [← h]; exact t36
  · rw [← h]; exact t37
  · rw [← h]; exact t38
  · rw [← h]; exact t39
  · rw [← h]; exact t40
  · rw [← h]; exact t41
  · rw [← h]; exact t42
  · rw [← h]; exact t43
  · rw [← h]; exact t44
  · rw [← h]; exact t45
  · cases h
theorem mixed : Try.prog.follows .mixedOrders = true := by kernel_rfl
end Go.Proofs.Ytpffdendgnkpoaa.Tab
