/- The reference's check of a part, in plain words: it is the code's own. -/
import Derived.Test.YtlppecefalblmaaGreatDoorFz05
import Derived.Test.YtlppecefalblmaaGreatDoorZtEfBase
namespace Go.Proofs.Ef
set_option maxRecDepth 100000
set_option maxHeartbeats 32000000
open Go Go.Fs
set_option linter.unusedSimpArgs false
set_option linter.unusedVariables false
variable {orc : Orc}
def cf109 : CF := ⟨38, [(.tmp 4), (.tmp 5), (.tmp 6), (.tmp 7), (.tmp 8)], (.seq (.region [Zo 4 (.mv (.c (.bool false))), Zo 5 (.mv (.c (.bool false))), Zo 6 (.mv (.c (.bool false))), Zo 7 (.mv (.c (.bool false))), Zo 8 (.mv (.c (.bool false)))]) (.seq (.region [Zm 12 0, Zo 13 (.call (.f 141) [(.t 12)]), Zm 11 13, Ze 14 0 11, Ze 15 1 11, Zm 9 14, Zm 10 15]) (.seq (.region [Zm 16 10, Zb 17 .gtr (.t 16) (.c (.int .i64 0)), Zm 18 0, Zb 19 .eql (.t 18) (.c (.int .u8 11)), Zm 20 19, Zg 21 (.mv (.t 1)) 20 false, Zg 22 (.bin .eql .other (.t 21) (.c (.int .u8 9))) 20 false, Zo 23 (.pick (.t 20) (.c (.bool true)) (.t 22)), Zm 24 0, Zb 25 .eql (.t 24) (.c (.int .u8 12)), Zm 26 25, Zg 27 (.mv (.t 0)) 26 false, Zg 28 (.bin .eql .other (.t 27) (.c (.int .u8 13))) 26 false, Zo 29 (.pick (.t 26) (.c (.bool true)) (.t 28)), Zm 30 29, Zg 31 (.mv (.t 1)) 30 false, Zg 32 (.bin .eql .other (.t 31) (.c (.int .u8 10))) 30 false, Zo 33 (.pick (.t 30) (.c (.bool true)) (.t 32)), Zm 34 0, Zb 35 .eql (.t 34) (.c (.int .u8 9)), Zm 36 0, Zb 37 .eql (.t 36) (.c (.int .u8 7)), Zm 4 17, Zm 5 23, Zm 6 33, Zm 7 35, Zm 8 37]) .ret)))⟩
def cf141 : CF := ⟨20, [(.tmp 2), (.tmp 3)], (.seq (.region [Zo 2 (.mv (.c (.int .i64 0))), Zo 3 (.mv (.c (.int .i64 0)))]) (.seq (.seq (.region [Zm 4 0]) (.block 0 (.seq (.seq (.region [Zb 6 .eql (.t 4) (.c (.int .u8 1)), Zm 5 6]) (.cond (.t 5) .skip (.seq (.region [Zb 7 .eql (.t 4) (.c (.int .u8 2)), Zm 5 7]) (.cond (.t 5) .skip (.seq (.region [Zb 8 .eql (.t 4) (.c (.int .u8 3)), Zm 5 8]) (.cond (.t 5) .skip (.seq (.region [Zb 9 .eql (.t 4) (.c (.int .u8 4)), Zm 5 9]) (.cond (.t 5) .skip (.seq (.region [Zb 10 .eql (.t 4) (.c (.int .u8 7)), Zm 5 10]) (.cond (.t 5) .skip (.seq (.region [Zb 11 .eql (.t 4) (.c (.int .u8 16)), Zm 5 11]) (.cond (.t 5) .skip (.region [Zb 12 .eql (.t 4) (.c (.int .u8 19)), Zm 5 12]))))))))))))) (.cond (.t 5) (.seq (.region [Zo 2 (.mv (.c (.int .i64 1))), Zo 3 (.mv (.c (.int .i64 99)))]) .ret) (.seq (.seq (.region [Zb 14 .eql (.t 4) (.c (.int .u8 9)), Zm 13 14]) (.cond (.t 13) .skip (.region [Zb 15 .eql (.t 4) (.c (.int .u8 15)), Zm 13 15]))) (.cond (.t 13) (.seq (.region [Zo 2 (.mv (.c (.int .i64 (-99)))), Zo 3 (.mv (.c (.int .i64 99)))]) .ret) (.seq (.region [Zb 17 .eql (.t 4) (.c (.int .u8 5)), Zm 16 17]) (.cond (.t 16) (.seq (.region [Zo 2 (.mv (.c (.int .i64 (-9)))), Zo 3 (.mv (.c (.int .i64 9)))]) .ret) (.seq (.region [Zb 19 .eql (.t 4) (.c (.int .u8 14)), Zm 18 19]) (.cond (.t 18) (.seq (.region [Zo 2 (.mv (.c (.int .i64 0))), Zo 3 (.mv (.c (.int .i64 99)))]) .ret) .skip)))))))))) (.seq (.region [Zo 2 (.mv (.c (.int .i64 0))), Zo 3 (.mv (.c (.int .i64 0)))]) .ret)))⟩
def cf111 : CF := ⟨24, [(.tmp 2)], (.seq (.region [Zo 2 (.mv (.c (.int .i64 0)))]) (.seq (.block 0 (.seq (.region [Zm 4 0, Zb 5 .geq (.t 4) (.c (.int .u8 1)), Zm 6 5, Zg 7 (.mv (.t 0)) 6 true, Zg 8 (.bin .leq .other (.t 7) (.c (.int .u8 9))) 6 true, Zo 9 (.pick (.t 6) (.t 8) (.c (.bool false))), Zm 3 9]) (.cond (.t 3) (.seq (.region [Zo 2 (.mv (.c (.int .i64 1)))]) .ret) (.seq (.region [Zm 11 0, Zb 12 .geq (.t 11) (.c (.int .u8 10)), Zm 13 12, Zg 14 (.mv (.t 0)) 13 true, Zg 15 (.bin .leq .other (.t 14) (.c (.int .u8 15))) 13 true, Zo 16 (.pick (.t 13) (.t 15) (.c (.bool false))), Zm 10 16]) (.cond (.t 10) (.seq (.region [Zo 2 (.mv (.c (.int .i64 2)))]) .ret) (.seq (.region [Zm 18 0, Zb 19 .geq (.t 18) (.c (.int .u8 16)), Zm 20 19, Zg 21 (.mv (.t 0)) 20 true, Zg 22 (.bin .leq .other (.t 21) (.c (.int .u8 19))) 20 true, Zo 23 (.pick (.t 20) (.t 22) (.c (.bool false))), Zm 17 23]) (.cond (.t 17) (.seq (.region [Zo 2 (.mv (.c (.int .i64 3)))]) .ret) .skip))))))) (.seq (.region [Zo 2 (.mv (.c (.int .i64 0)))]) .ret)))⟩
def cf112 : CF := ⟨16, [(.tmp 2)], (.seq (.region [Zo 2 (.mv (.c (.int .i64 0)))]) (.seq (.block 0 (.seq (.region [Zm 4 0, Zb 5 .geq (.t 4) (.c (.int .u8 1)), Zm 6 5, Zg 7 (.mv (.t 0)) 6 true, Zg 8 (.bin .leq .other (.t 7) (.c (.int .u8 4))) 6 true, Zo 9 (.pick (.t 6) (.t 8) (.c (.bool false))), Zm 3 9]) (.cond (.t 3) (.seq (.region [Zo 2 (.mv (.c (.int .i64 1)))]) .ret) (.seq (.region [Zm 11 0, Zb 12 .eql (.t 11) (.c (.int .u8 5)), Zm 10 12]) (.cond (.t 10) (.seq (.region [Zo 2 (.mv (.c (.int .i64 2)))]) .ret) (.seq (.region [Zm 14 0, Zb 15 .eql (.t 14) (.c (.int .u8 6)), Zm 13 15]) (.cond (.t 13) (.seq (.region [Zo 2 (.mv (.c (.int .i64 3)))]) .ret) .skip))))))) (.seq (.region [Zo 2 (.mv (.c (.int .i64 0)))]) .ret)))⟩
def cf113 : CF := ⟨53, [(.tmp 2)], (.seq (.region [Zo 1 (.box (.t 0)), Zo 2 (.mv (.c (.bool false)))]) (.seq (.region [Zf 4 2 1, Zl 5 4, Zb 6 .eql (.t 5) (.c (.int .u8 1)), Zm 7 6, Zg 8 (.faddr 2 (.t 1)) 7 false, Zg 9 (.load none (.t 8)) 7 false, Zg 10 (.bin .eql .other (.t 9) (.c (.int .u8 2))) 7 false, Zo 11 (.pick (.t 7) (.c (.bool true)) (.t 10)), Zm 3 11]) (.seq (.seq (.region [Zf 12 1 1, Zl 13 12, Zo 14 (.call (.f 111) [(.t 13)])]) (.block 0 (.seq (.region [Zb 16 .eql (.t 14) (.c (.int .i64 1)), Zm 15 16]) (.cond (.t 15) (.seq (.seq (.region [Zm 17 3, Zm 18 17, Zg 19 (.faddr 1 (.t 1)) 18 true, Zg 20 (.load none (.t 19)) 18 true, Zg 21 (.bin .eql .other (.t 20) (.c (.int .u8 6))) 18 true, Zg 22 (.mv (.t 21)) 18 true, Zg 23 (.faddr 1 (.t 1)) 22 false, Zg 24 (.load none (.t 23)) 22 false, Zg 25 (.bin .eql .other (.t 24) (.c (.int .u8 8))) 22 false, Zg 26 (.pick (.t 22) (.c (.bool true)) (.t 25)) 18 true, Zg 27 (.mv (.t 26)) 18 true, Zg 28 (.faddr 1 (.t 1)) 27 false, Zg 29 (.load none (.t 28)) 27 false, Zg 30 (.bin .eql .other (.t 29) (.c (.int .u8 9))) 27 false, Zg 31 (.pick (.t 27) (.c (.bool true)) (.t 30)) 18 true, Zo 32 (.pick (.t 18) (.t 31) (.c (.bool false)))]) (.cond (.t 32) (.seq (.region [Zo 2 (.mv (.c (.bool false)))]) .ret) .skip)) (.seq (.region [Zf 33 2 1, Zl 34 33, Zb 35 .neq (.t 34) (.c (.int .u8 3)), Zm 36 35, Zg 37 (.faddr 0 (.t 1)) 36 false, Zg 38 (.load none (.t 37)) 36 false, Zg 39 (.bin .eql .other (.t 38) (.c (.int .u8 1))) 36 false, Zo 40 (.pick (.t 36) (.c (.bool true)) (.t 39)), Zm 2 40]) .ret)) (.seq (.region [Zb 42 .eql (.t 14) (.c (.int .i64 2)), Zm 41 42]) (.cond (.t 41) (.seq (.region [Zm 43 3, Zo 44 (.un .not (.t 43)), Zm 45 44, Zg 46 (.faddr 2 (.t 1)) 45 true, Zg 47 (.load none (.t 46)) 45 true, Zg 48 (.bin .neq .other (.t 47) (.c (.int .u8 3))) 45 true, Zo 49 (.pick (.t 45) (.t 48) (.c (.bool false))), Zm 2 49]) .ret) .skip)))))) (.seq (.region [Zf 50 2 1, Zl 51 50, Zb 52 .neq (.t 51) (.c (.int .u8 3)), Zm 2 52]) .ret))))⟩
def cf114 : CF := ⟨30, [(.tmp 2)], (.seq (.region [Zo 1 (.box (.t 0)), Zo 2 (.mv (.c (.bool false)))]) (.seq (.region [Zf 6 1 1, Zl 7 6, Zo 8 (.call (.f 141) [(.t 7)]), Zm 5 8, Ze 9 0 5, Ze 10 1 5, Zm 3 9, Zm 4 10]) (.seq (.region [Zf 11 3 1, Zl 12 11, Zm 13 3, Zb 14 .geq (.t 12) (.t 13), Zm 15 14, Zg 16 (.faddr 3 (.t 1)) 15 true, Zg 17 (.load none (.t 16)) 15 true, Zg 18 (.mv (.t 4)) 15 true, Zg 19 (.bin .leq .other (.t 17) (.t 18)) 15 true, Zo 20 (.pick (.t 15) (.t 19) (.c (.bool false))), Zm 21 20, Zg 22 (.mv (.t 3)) 21 true, Zg 23 (.bin .geq .other (.t 22) (.c (.int .i64 0))) 21 true, Zg 24 (.mv (.t 23)) 21 true, Zg 25 (.faddr 3 (.t 1)) 24 false, Zg 26 (.load none (.t 25)) 24 false, Zg 27 (.bin .neq .other (.t 26) (.c (.int .i64 0))) 24 false, Zg 28 (.pick (.t 24) (.c (.bool true)) (.t 27)) 21 true, Zo 29 (.pick (.t 21) (.t 28) (.c (.bool false))), Zm 2 29]) .ret)))⟩
def cf115 : CF := ⟨18, [(.tmp 6)], (.seq (.region [Zo 6 (.mv (.c (.bool false)))]) (.seq (.seq (.region [Zm 7 0, Zo 8 (.un .not (.t 7))]) (.cond (.t 8) (.seq (.region [Zm 9 1, Zb 10 .eql (.t 9) (.c (.int .i64 0)), Zm 6 10]) .ret) .skip)) (.seq (.region [Zm 11 1, Zb 12 .geq (.t 11) (.c (.int .i64 1)), Zm 13 12, Zg 14 (.mv (.t 1)) 13 true, Zg 15 (.mv (.t 2)) 13 true, Zg 16 (.bin .leq .other (.t 14) (.t 15)) 13 true, Zo 17 (.pick (.t 13) (.t 16) (.c (.bool false))), Zm 6 17]) .ret)))⟩
def cf116 : CF := ⟨39, [(.tmp 2)], (.seq (.region [Zo 2 (.mv (.c (.bool false)))]) (.seq (.seq (.region [Zm 4 0, Zo 5 (.lenS (.t 4)), Zb 6 .lss (.t 5) (.c (.int .i64 1)), Zm 7 6, Zg 8 (.mv (.t 0)) 7 false, Zg 9 (.lenS (.t 8)) 7 false, Zg 10 (.bin .gtr .other (.t 9) (.c (.int .i64 20))) 7 false, Zo 11 (.pick (.t 7) (.c (.bool true)) (.t 10)), Zm 12 11, Zg 13 (.mv (.t 0)) 12 false, Zg 14 (.idxS (.t 13) (.c (.int .i64 0))) 12 false, Zg 15 (.bin .eql .other (.t 14) (.c (.int .u8 45))) 12 false, Zo 16 (.pick (.t 12) (.c (.bool true)) (.t 15))]) (.cond (.t 16) (.seq (.region [Zo 2 (.mv (.c (.bool false)))]) .ret) .skip)) (.seq (.seq (.region [Zo 3 (.mv (.c (.int .i64 0)))]) (.block 0 (.loop (.seq (.seq (.region [Zm 17 3, Zm 18 0, Zo 19 (.lenS (.t 18)), Zb 20 .lss (.t 17) (.t 19)]) (.cond (.t 20) .skip (.exit 0))) (.seq (.block 1 (.seq (.region [Zm 23 0, Zm 24 3, Zo 25 (.idxS (.t 23) (.t 24)), Zb 26 .lss (.t 25) (.c (.int .u8 97)), Zm 27 26, Zg 28 (.mv (.t 0)) 27 false, Zg 29 (.mv (.t 3)) 27 false, Zg 30 (.idxS (.t 28) (.t 29)) 27 false, Zg 31 (.bin .gtr .other (.t 30) (.c (.int .u8 122))) 27 false, Zo 32 (.pick (.t 27) (.c (.bool true)) (.t 31)), Zm 33 32, Zg 34 (.mv (.t 0)) 33 true, Zg 35 (.mv (.t 3)) 33 true, Zg 36 (.idxS (.t 34) (.t 35)) 33 true, Zg 37 (.bin .neq .other (.t 36) (.c (.int .u8 45))) 33 true, Zo 38 (.pick (.t 33) (.t 37) (.c (.bool false)))]) (.cond (.t 38) (.seq (.region [Zo 2 (.mv (.c (.bool false)))]) .ret) .skip))) (.region [Zm 21 3, Zb 22 .add (.t 21) (.c (.int .i64 1)), Zm 3 22])))))) (.seq (.region [Zo 2 (.mv (.c (.bool true)))]) .ret))))⟩
def cf55 : CF := ⟨113, [(.tmp 2)], (.seq (.region [Zo 1 (.box (.t 0)), Zo 2 (.mv (.c (.int .i64 0)))]) (.seq (.seq (.region [Zf 8 0 1, Zl 9 8, Zb 10 .lss (.t 9) (.c (.int .u8 1)), Zm 11 10, Zg 12 (.faddr 0 (.t 1)) 11 false, Zg 13 (.load none (.t 12)) 11 false, Zg 14 (.bin .gtr .other (.t 13) (.c (.int .u8 6))) 11 false, Zo 15 (.pick (.t 11) (.c (.bool true)) (.t 14)), Zm 16 15, Zg 17 (.faddr 1 (.t 1)) 16 false, Zg 18 (.load none (.t 17)) 16 false, Zg 19 (.bin .lss .other (.t 18) (.c (.int .u8 1))) 16 false, Zo 20 (.pick (.t 16) (.c (.bool true)) (.t 19)), Zm 21 20, Zg 22 (.faddr 1 (.t 1)) 21 false, Zg 23 (.load none (.t 22)) 21 false, Zg 24 (.bin .gtr .other (.t 23) (.c (.int .u8 19))) 21 false, Zo 25 (.pick (.t 21) (.c (.bool true)) (.t 24)), Zm 26 25, Zg 27 (.faddr 2 (.t 1)) 26 false, Zg 28 (.load none (.t 27)) 26 false, Zg 29 (.bin .lss .other (.t 28) (.c (.int .u8 1))) 26 false, Zo 30 (.pick (.t 26) (.c (.bool true)) (.t 29)), Zm 31 30, Zg 32 (.faddr 2 (.t 1)) 31 false, Zg 33 (.load none (.t 32)) 31 false, Zg 34 (.bin .gtr .other (.t 33) (.c (.int .u8 10))) 31 false, Zo 35 (.pick (.t 31) (.c (.bool true)) (.t 34))]) (.cond (.t 35) (.seq (.region [Zo 2 (.mv (.c (.int .i64 2)))]) .ret) .skip)) (.seq (.region [Zf 37 1 1, Zl 38 37, Zf 39 2 1, Zl 40 39, Zo 41 (.call (.f 109) [(.t 38), (.t 40)]), Zm 36 41, Ze 42 0 36, Ze 43 1 36, Ze 44 2 36, Ze 45 3 36, Ze 46 4 36, Zm 3 42, Zm 4 43, Zm 5 44, Zm 6 45, Zm 7 46]) (.seq (.block 0 (.seq (.regionD [⟨Zf 48 1 1, 0, 0, false⟩, ⟨Zl 49 48, 0, 0, false⟩, ⟨Zo 50 (.call (.f 111) [(.t 49)]), 0, 1, false⟩, ⟨Zf 51 0 1, 0, 1, false⟩, ⟨Zl 52 51, 0, 1, false⟩, ⟨Zo 53 (.call (.f 112) [(.t 52)]), 1, 2, false⟩, ⟨Zb 54 .neq (.t 50) (.t 53), 2, 2, false⟩, ⟨Zm 55 54, 2, 2, false⟩, ⟨Zg 56 (.faddr 1 (.t 1)) 55 false, 2, 2, false⟩, ⟨Zg 57 (.load none (.t 56)) 55 false, 2, 2, false⟩, ⟨Zg 58 (.bin .eql .other (.t 57) (.c (.int .u8 11))) 55 false, 2, 2, false⟩, ⟨Zg 59 (.mv (.t 58)) 55 false, 2, 2, false⟩, ⟨Zg 60 (.faddr 2 (.t 1)) 59 true, 2, 2, false⟩, ⟨Zg 61 (.load none (.t 60)) 59 true, 2, 2, false⟩, ⟨Zg 62 (.bin .eql .other (.t 61) (.c (.int .u8 9))) 59 true, 2, 2, false⟩, ⟨Zg 63 (.pick (.t 59) (.t 62) (.c (.bool false))) 55 false, 2, 2, false⟩, ⟨Zo 64 (.pick (.t 55) (.c (.bool true)) (.t 63)), 2, 2, false⟩, ⟨Zm 47 64, 2, 2, false⟩]) (.cond (.t 47) (.seq (.region [Zo 2 (.mv (.c (.int .i64 8)))]) .ret) (.seq (.region [Zo 66 (.load (some 8) (.t 1)), Zo 67 (.call (.f 113) [(.t 66)]), Zo 68 (.un .not (.t 67)), Zm 65 68]) (.cond (.t 65) (.seq (.region [Zo 2 (.mv (.c (.int .i64 13)))]) .ret) (.seq (.region [Zo 70 (.load (some 8) (.t 1)), Zo 71 (.call (.f 114) [(.t 70)]), Zo 72 (.un .not (.t 71)), Zm 69 72]) (.cond (.t 69) (.seq (.region [Zo 2 (.mv (.c (.int .i64 2)))]) .ret) (.seq (.region [Zm 74 4, Zf 75 4 1, Zl 76 75, Zo 77 (.toInt .i64 (.t 76)), Zo 78 (.call (.f 115) [(.t 74), (.t 77), (.c (.int .i64 6))]), Zo 79 (.un .not (.t 78)), Zm 80 79, Zg 81 (.mv (.t 5)) 80 false, Zg 82 (.faddr 5 (.t 1)) 80 false, Zg 83 (.load none (.t 82)) 80 false, Zg 84 (.toInt .i64 (.t 83)) 80 false, Zg 85 (.call (.f 115) [(.t 81), (.t 84), (.c (.int .i64 8))]) 80 false, Zg 86 (.un .not (.t 85)) 80 false, Zo 87 (.pick (.t 80) (.c (.bool true)) (.t 86)), Zm 88 87, Zg 89 (.mv (.t 6)) 88 false, Zg 90 (.faddr 6 (.t 1)) 88 false, Zg 91 (.load none (.t 90)) 88 false, Zg 92 (.toInt .i64 (.t 91)) 88 false, Zg 93 (.call (.f 115) [(.t 89), (.t 92), (.c (.int .i64 4))]) 88 false, Zg 94 (.un .not (.t 93)) 88 false, Zo 95 (.pick (.t 88) (.c (.bool true)) (.t 94)), Zm 73 95]) (.cond (.t 73) (.seq (.region [Zo 2 (.mv (.c (.int .i64 2)))]) .ret) (.seq (.region [Zm 97 7, Zm 98 97, Zg 99 (.faddr 7 (.t 1)) 98 true, Zg 100 (.load none (.t 99)) 98 true, Zg 101 (.call (.f 116) [(.t 100)]) 98 true, Zg 102 (.un .not (.t 101)) 98 true, Zo 103 (.pick (.t 98) (.t 102) (.c (.bool false))), Zm 104 103, Zg 105 (.mv (.t 7)) 104 false, Zg 106 (.un .not (.t 105)) 104 false, Zg 107 (.mv (.t 106)) 104 false, Zg 108 (.faddr 7 (.t 1)) 107 true, Zg 109 (.load none (.t 108)) 107 true, Zg 110 (.bin .neq .other (.t 109) (.c (.str []))) 107 true, Zg 111 (.pick (.t 107) (.t 110) (.c (.bool false))) 104 false, Zo 112 (.pick (.t 104) (.c (.bool true)) (.t 111)), Zm 96 112]) (.cond (.t 96) (.seq (.region [Zo 2 (.mv (.c (.int .i64 4)))]) .ret) .skip))))))))))) (.seq (.region [Zo 2 (.mv (.c (.int .i64 0)))]) .ret)))))⟩
theorem tbl109 : tbl Tryz.prog 109 = some cf109 := by kernel_rfl
theorem tbl141 : tbl Tryz.prog 141 = some cf141 := by kernel_rfl
theorem tbl111 : tbl Tryz.prog 111 = some cf111 := by kernel_rfl
theorem tbl112 : tbl Tryz.prog 112 = some cf112 := by kernel_rfl
theorem tbl113 : tbl Tryz.prog 113 = some cf113 := by kernel_rfl
theorem tbl114 : tbl Tryz.prog 114 = some cf114 := by kernel_rfl
theorem tbl115 : tbl Tryz.prog 115 = some cf115 := by kernel_rfl
theorem tbl116 : tbl Tryz.prog 116 = some cf116 := by kernel_rfl
theorem tbl55 : tbl Tryz.prog 55 = some cf55 := by kernel_rfl
def oneB (v : Int) : Bool := v == 1 || v == 2 || v == 3 || v == 4 || v == 7 || v == 16 || v == 19
def lowR (v : Int) : Int := if oneB v = true then 1 else if v = 9 ∨ v = 15 then -99 else if v = 5 then -9 else 0
def highR (v : Int) : Int := if oneB v = true then 99 else if v = 9 ∨ v = 15 then 99 else if v = 5 then 9 else if v = 14 then 99 else 0
def kindI (v : Int) : Int := if evB v = true then 1 else if stB v = true then 2 else if swB v = true then 3 else 0
def wantsI (w : Int) : Int := if 1 ≤ w ∧ w ≤ 4 then 1 else if w = 5 then 2 else if w = 6 then 3 else 0
def aboutR (w v m : Int) : Bool :=
 if evB v = true then (if plB m = true ∧ (v = 6 ∨ v = 8 ∨ v = 9) then false else (!(m == 3) || w == 1)) else if stB v = true then !plB m && !(m == 3) else !(m == 3)
def countedR (v c : Int) : Bool := decide (lowR v ≤ c) && decide (c ≤ highR v) && (decide (0 ≤ lowR v) || c != 0)
theorem rcounts_spec (ho : orc 141 = none) (v : Int) (h : AH) : acall orc T 141 [.int .u8 v] h = some (.tuple [.int .i64 (lowR v), .int .i64 (highR v)], h) := by
 refine acall_sym ho tbl141 ?_
 refine GD ?_
 (have fct := trivial; (repeat' first | refine A_walk ?_ | exact trivial | refine GuardK_split (fun hb => ?_) (fun hb => ?_) | refine CondK_split (fun hb => ?_) (fun hb => ?_) | refine CodeK_regionD _ ?_ | refine DGuardK_split (fun hb => ?_) (fun hb => ?_)); all_goals try clear fct)
 all_goals simp_all [lowR, highR, oneB]
theorem highR_pos (v : Int) : decide (0 < highR v) = uC v := by
 unfold highR uC oneB
 rw [Bool.eq_iff_iff, decide_eq_true_eq]
 simp only [Bool.or_eq_true, beq_iff_eq]
 split
 · omega
 · split
   · omega
   · split
     · omega
     · split <;> omega
theorem ruses_spec (ho : orc 109 = none) (ho1 : orc 141 = none) (v m : Int) (h : AH) : acall orc T 109 [.int .u8 v, .int .u8 m] h = some (.tuple [.bool (uC v), .bool (uS v m), .bool (uT v m), .bool (uM v), .bool (uN v)], h) := by
 refine acall_sym ho tbl109 ?_
 have c1 := rcounts_spec ho1 v
 have e1 := highR_pos v
 refine GD ?_
 (have fct := @c1; (repeat' first | refine A_walk ?_ | exact trivial | refine GuardK_split (fun hb => ?_) (fun hb => ?_) | refine CondK_split (fun hb => ?_) (fun hb => ?_) | refine CodeK_regionD _ ?_ | refine DGuardK_split (fun hb => ?_) (fun hb => ?_)); all_goals try clear fct)
 all_goals simp_all [uS, uT, uM, uN]
theorem rkind_spec (ho : orc 111 = none) (v : Int) (h : AH) : acall orc T 111 [.int .u8 v] h = some (.int .i64 (kindI v), h) := by
 refine acall_sym ho tbl111 ?_
 refine GD ?_
 (have fct := trivial; (repeat' first | refine A_walk ?_ | exact trivial | refine GuardK_split (fun hb => ?_) (fun hb => ?_) | refine CondK_split (fun hb => ?_) (fun hb => ?_) | refine CodeK_regionD _ ?_ | refine DGuardK_split (fun hb => ?_) (fun hb => ?_)); all_goals try clear fct)
 all_goals (simp_all [kindI, evB, stB, swB] <;> omega)
theorem rwants_spec (ho : orc 112 = none) (v : Int) (h : AH) : acall orc T 112 [.int .u8 v] h = some (.int .i64 (wantsI v), h) := by
 refine acall_sym ho tbl112 ?_
 refine GD ?_
 (have fct := trivial; (repeat' first | refine A_walk ?_ | exact trivial | refine GuardK_split (fun hb => ?_) (fun hb => ?_) | refine CondK_split (fun hb => ?_) (fun hb => ?_) | refine CodeK_regionD _ ?_ | refine DGuardK_split (fun hb => ?_) (fun hb => ?_)); all_goals try clear fct)
 all_goals (simp_all [wantsI] <;> omega)
theorem rabout_spec (ho : orc 113 = none) (ho1 : orc 111 = none) (w v m c s t k : Int) (nm : List UInt8) (h : AH) : acall orc T 113 [.agg (part w v m c s t k nm)] h = some (.bool (aboutR w v m), h) := by
 refine acall_sym ho tbl113 ?_
 have c1 := rkind_spec ho1 v
 unfold part
 refine GD ?_
 unfold kindI at c1
 unfold aboutR
 cases hE : evB v <;> cases hS : stB v <;> cases hW : swB v
 all_goals (
  simp only [hE, hS, hW, Bool.false_eq_true, if_false, if_true] at c1
  simp only [Bool.false_eq_true, if_false, if_true]
  (have fct := @c1; (repeat' first | refine A_walk ?_ | exact trivial | refine GuardK_split (fun hb => ?_) (fun hb => ?_) | refine CondK_split (fun hb => ?_) (fun hb => ?_) | refine CodeK_regionD _ ?_ | refine DGuardK_split (fun hb => ?_) (fun hb => ?_)); all_goals try clear fct)
  all_goals (simp_all [plB, bne] <;> (try omega)))
theorem rcounted_spec (ho : orc 114 = none) (ho1 : orc 141 = none) (w v m c s t k : Int) (nm : List UInt8) (h : AH) : acall orc T 114 [.agg (part w v m c s t k nm)] h = some (.bool (countedR v c), h) := by
 refine acall_sym ho tbl114 ?_
 have c1 := rcounts_spec ho1 v
 unfold part countedR
 generalize lowR v = lo at *
 generalize highR v = hi at *
 refine GD ?_
 (have fct := @c1; (repeat' first | refine A_walk ?_ | exact trivial | refine GuardK_split (fun hb => ?_) (fun hb => ?_) | refine CondK_split (fun hb => ?_) (fun hb => ?_) | refine CodeK_regionD _ ?_ | refine DGuardK_split (fun hb => ?_) (fun hb => ?_)); all_goals try clear fct)
 all_goals simp_all
theorem rwithin_spec (ho : orc 115 = none) (x high : Int) (u : Bool) (h : AH) : acall orc T 115 [.bool u, .int .i64 x, .int .i64 high] h = some (.bool (withinB x u 1 high), h) := by
 refine acall_sym ho tbl115 ?_
 refine GD ?_
 cases u <;> (have fct := trivial; (repeat' first | refine A_walk ?_ | exact trivial | refine GuardK_split (fun hb => ?_) (fun hb => ?_) | refine CondK_split (fun hb => ?_) (fun hb => ?_) | refine CodeK_regionD _ ?_ | refine DGuardK_split (fun hb => ?_) (fun hb => ?_)); all_goals try clear fct)
 all_goals (simp_all [withinB] <;> omega)
theorem bad_byte (b : UInt8) : ((decide ((b.toNat : Int) < 97) || decide ((122 : Int) < (b.toNat : Int))) && ((b.toNat : Int) != 45)) = !cutset.contains b := by
 have hh : ∀ n : Fin 256, ((decide (((UInt8.ofNat n.val).toNat : Int) < 97) || decide ((122 : Int) < ((UInt8.ofNat n.val).toNat : Int))) && (((UInt8.ofNat n.val).toNat : Int) != 45)) = !cutset.contains (UInt8.ofNat n.val) := by decide +kernel
 have := hh ⟨b.toNat, b.toNat_lt⟩
 simpa using this
theorem idxSV_nat {s : List UInt8} {i : Nat} {b : UInt8} (hb : s[i]? = some b) (k : IntKind) (h : AH) : idxSV (.str s) (.int k (i : Int)) h = some (.int .u8 b.toNat, h) := by
 simp [idxSV, hb]
def allC (s : List UInt8) : Bool := s.all (cutset.contains ·)
structure NmI (s : List UInt8) (h0 : AH) (n : Nat) (tm : List AV) (h : AH) : Prop where
 len : tm.length = 39
 t0 : tm.getD 0 AV.undef = .str s
 hp : h = h0.withLow h0.n
 st : ∃ i : Nat, n = s.length - i ∧ i ≤ s.length ∧ tm.getD 3 AV.undef = .int .i64 (i : Int) ∧ allC (s.take i) = true
theorem isName_cons {b : UInt8} {s : List UInt8} (hl : s.length + 1 ≤ 20) (hb : ((b.toNat : Int) != 45) = true) : isName (b :: s) = allC (b :: s) := by
 have e1 : decide (1 ≤ (b :: s).length) = true := by simp
 have e2 : decide ((b :: s).length ≤ 20) = true := by simpa using hl
 rw [isName, e1, e2, List.headD_cons, hb, Bool.true_and, Bool.true_and, Bool.true_and]; rfl
theorem all_take_false {s : List UInt8} {i : Nat} {b : UInt8} (hb : s[i]? = some b) (hp : cutset.contains b = false) : allC s = false := by
 unfold allC
 rw [Bool.eq_false_iff]
 intro h
 rw [List.all_eq_true] at h
 have := h b (List.mem_of_getElem? hb)
 rw [hp] at this; cases this
theorem all_take_succ {s : List UInt8} {i : Nat} {b : UInt8} (hb : s[i]? = some b) (hp : cutset.contains b = true) (ha : allC (s.take i) = true) : allC (s.take (i + 1)) = true := by
 unfold allC at ha ⊢
 rw [List.take_add_one, hb, List.all_append, ha]
 simp only [Option.toList_some, List.all_cons, List.all_nil, hp, Bool.and_self]
theorem rname_spec (ho : orc 116 = none) (s : List UInt8) (h : AH) : acall orc T 116 [.str s] h = some (.bool (isName s), h) := by
 refine acall_sym ho tbl116 ?_
 cases s with
 | nil =>
   refine GD ?_
   have l1 : decide (((0 : Nat) : Int) < 1) = true := by decide
   (have fct := @l1; (repeat' first | refine A_walk ?_ | exact trivial | refine GuardK_split (fun hb => ?_) (fun hb => ?_) | refine CondK_split (fun hb => ?_) (fun hb => ?_) | refine CodeK_regionD _ ?_ | refine DGuardK_split (fun hb => ?_) (fun hb => ?_)); all_goals try clear fct)
   all_goals simp_all [isName]
 | cons b s =>
   have l1 : decide (((s.length + 1 : Nat) : Int) < 1) = false := by rw [decide_eq_false_iff_not]; omega
   by_cases hl : s.length + 1 ≤ 20
   · have l2 : decide ((20 : Int) < ((s.length + 1 : Nat) : Int)) = false := by rw [decide_eq_false_iff_not]; omega
     cases hb0 : ((b.toNat : Int) != 45) with
     | false =>
       have hb1 : ((b.toNat : Int) == 45) = true := by rw [bne, Bool.not_eq_false'] at hb0; exact hb0
       have hE : isName (b :: s) = false := by simp only [isName, List.headD_cons, hb0, Bool.and_false, Bool.false_and]
       rw [hE]
       refine GD ?_
       (have fct := Fj @l1 (Fj @l2 (Fj @op_idxS (Fj @idxSV_zero @hb1))); (repeat' first | refine A_walk ?_ | exact trivial | refine GuardK_split (fun hb => ?_) (fun hb => ?_) | refine CondK_split (fun hb => ?_) (fun hb => ?_) | refine CodeK_regionD _ ?_ | refine DGuardK_split (fun hb => ?_) (fun hb => ?_)); all_goals try clear fct)
     | true =>
       have hb1 : ((b.toNat : Int) == 45) = false := by rw [bne, Bool.not_eq_true'] at hb0; exact hb0
       rw [isName_cons hl hb0]
       refine GD ?_
       (have fct := Fj @l1 (Fj @l2 (Fj @op_idxS (Fj @idxSV_zero @hb1))); (repeat' first | refine A_walk ?_ | exact trivial | refine GuardK_split (fun hb => ?_) (fun hb => ?_) | refine CondK_split (fun hb => ?_) (fun hb => ?_) | refine CodeK_regionD _ ?_ | refine DGuardK_split (fun hb => ?_) (fun hb => ?_)); all_goals try clear fct)
       have hlen : (b :: s).length ≤ 20 := by simpa using hl
       generalize hS : b :: s = S at *
       refine CodeK_loop (NmI S h) S.length ?_ ?_
       · exact ⟨rfl, rfl, rfl, 0, rfl, Nat.zero_le _, rfl, rfl⟩
       clear hS l1 l2 hb0 hb1 hl
       intro n tm h' I
       obtain ⟨i, hn, hi, e3, ha⟩ := I.st
       have el := I.len
       have e0 := I.t0
       obtain rfl := I.hp
       by_cases hlt : i < S.length
       case neg =>
        obtain rfl : i = S.length := by omega
        have l1 : decide (((S.length : Nat) : Int) < ((S.length : Nat) : Int)) = false := by rw [decide_eq_false_iff_not]; omega
        rw [List.take_length] at ha
        rw [ha]
        (have fct := Fj @el (Fj @e0 (Fj @e3 @l1)); (repeat' first | refine A_walk ?_ | exact trivial | refine GuardK_split (fun hb => ?_) (fun hb => ?_) | refine CondK_split (fun hb => ?_) (fun hb => ?_) | refine CodeK_regionD _ ?_ | refine DGuardK_split (fun hb => ?_) (fun hb => ?_)); all_goals try clear fct)
       case pos =>
        have l1 : decide (((i : Nat) : Int) < ((S.length : Nat) : Int)) = true := by rw [decide_eq_true_eq]; omega
        have w1 : IntKind.wrap .i64 ((i : Int) + 1) = ((i + 1 : Nat) : Int) := by rw [wrap_i64 (by omega) (by omega)]; omega
        obtain ⟨x, hx⟩ : ∃ x, S[i]? = some x := ⟨_, List.getElem?_eq_getElem hlt⟩
        have c1 := fun h => idxSV_nat hx .i64 h
        have hbb : cutset.contains x = !((decide ((x.toNat : Int) < 97) || decide ((122 : Int) < (x.toNat : Int))) && ((x.toNat : Int) != 45)) := by rw [bad_byte, Bool.not_not]
        cases hA : decide ((x.toNat : Int) < 97) <;> cases hB : decide ((122 : Int) < (x.toNat : Int)) <;> cases hC : ((x.toNat : Int) != 45)
        all_goals (
         rw [hA, hB, hC] at hbb
         simp only [Bool.or_false, Bool.or_true, Bool.and_true, Bool.and_false, Bool.not_true, Bool.not_false] at hbb
         first
         | (have hp : cutset.contains x = true := hbb
            clear hbb
            (have fct := Fj @el (Fj @e0 (Fj @e3 (Fj @l1 (Fj @w1 (Fj @op_idxS (Fj @c1 (Fj @hA (Fj @hB @hC)))))))); (repeat' first | refine A_walk ?_ | exact trivial | refine GuardK_split (fun hb => ?_) (fun hb => ?_) | refine CondK_split (fun hb => ?_) (fun hb => ?_) | refine CodeK_regionD _ ?_ | refine DGuardK_split (fun hb => ?_) (fun hb => ?_)); all_goals try clear fct)
            exact ⟨S.length - (i + 1), by omega, by simp only [List.length_set, el], by simp only [fsTm, Nat.reduceBEq, Nat.reduceLT, el, e0], rfl, i + 1, rfl, by omega, by simp only [fsTm, Nat.reduceBEq, Nat.reduceLT, el], all_take_succ hx hp ha⟩)
         | (have hp : cutset.contains x = false := hbb
            clear hbb
            rw [all_take_false hx hp]
            (have fct := Fj @el (Fj @e0 (Fj @e3 (Fj @l1 (Fj @w1 (Fj @op_idxS (Fj @c1 (Fj @hA (Fj @hB @hC)))))))); (repeat' first | refine A_walk ?_ | exact trivial | refine GuardK_split (fun hb => ?_) (fun hb => ?_) | refine CondK_split (fun hb => ?_) (fun hb => ?_) | refine CodeK_regionD _ ?_ | refine DGuardK_split (fun hb => ?_) (fun hb => ?_)); all_goals try clear fct)))
   · have l2 : decide ((20 : Int) < ((s.length + 1 : Nat) : Int)) = true := by rw [decide_eq_true_eq]; omega
     have hE : isName (b :: s) = false := by
      have e2 : decide ((b :: s).length ≤ 20) = false := by simpa using hl
      rw [isName, e2, Bool.and_false, Bool.false_and, Bool.false_and]
     rw [hE]
     refine GD ?_
     (have fct := Fj @l1 @l2; (repeat' first | refine A_walk ?_ | exact trivial | refine GuardK_split (fun hb => ?_) (fun hb => ?_) | refine CondK_split (fun hb => ?_) (fun hb => ?_) | refine CodeK_regionD _ ?_ | refine DGuardK_split (fun hb => ?_) (fun hb => ?_)); all_goals try clear fct)
def bad6R (v : Int) (nm : List UInt8) : Bool := if uN v = true then !isName nm else !decide (nm = [])
def chkR (w v m c s t k : Int) (nm : List UInt8) : Int :=
 if bad1 w v m = true then 2 else if (kindI v != wantsI w || (v == 11 && m == 9)) = true then 8 else if aboutR w v m = false then 13 else if countedR v c = false then 2
 else if bad5 v m s t k = true then 2 else if bad6R v nm = true then 4 else 0
theorem wanted_eq {w v m : Int} (hb : bad1 w v m = false) : (kindI v != wantsI w) = !wantedB w v := by
 unfold bad1 at hb
 simp only [Bool.or_eq_false_iff, decide_eq_false_iff_not] at hb
 obtain ⟨⟨⟨⟨⟨h1, h2⟩, h3⟩, h4⟩, h5⟩, h6⟩ := hb
 rw [Bool.eq_iff_iff]
 unfold kindI wantsI wantedB evB stB swB
 simp only [bne_iff_ne, ne_eq, Bool.not_eq_true', Bool.and_eq_true, decide_eq_true_eq]
 by_cases a1 : 1 ≤ v ∧ v ≤ 9 <;> by_cases a2 : 10 ≤ v ∧ v ≤ 15 <;> by_cases a3 : 16 ≤ v ∧ v ≤ 19 <;> by_cases b1 : 1 ≤ w ∧ w ≤ 4 <;> by_cases b2 : w = 5 <;> by_cases b3 : w = 6 <;> simp [a1, a2, a3, b1, b2, b3] <;> omega
theorem about_eq {w v m : Int} (hb : bad1 w v m = false) : aboutR w v m = aboutB w v m := by
 unfold bad1 at hb
 simp only [Bool.or_eq_false_iff, decide_eq_false_iff_not] at hb
 obtain ⟨⟨⟨⟨⟨h1, h2⟩, h3⟩, h4⟩, h5⟩, h6⟩ := hb
 unfold aboutR aboutB evB stB swB plB
 rw [Bool.eq_iff_iff]
 simp only [bne_iff_ne, ne_eq, Bool.not_eq_true', Bool.and_eq_true, decide_eq_true_eq, Bool.or_eq_true, beq_iff_eq]
 by_cases a1 : 1 ≤ v ∧ v ≤ 9 <;> by_cases a2 : 10 ≤ v ∧ v ≤ 15 <;> by_cases a3 : 16 ≤ v ∧ v ≤ 19 <;> by_cases m3 : m = 3 <;> by_cases m1 : m = 1 <;> by_cases m2 : m = 2 <;> simp [a1, a2, a3, m1, m2, m3] <;> (try omega)
theorem counted_eq {w v m c : Int} (hb : bad1 w v m = false) : countedR v c = !bad4 v c := by
 unfold bad1 at hb
 simp only [Bool.or_eq_false_iff, decide_eq_false_iff_not] at hb
 obtain ⟨⟨⟨⟨⟨h1, h2⟩, h3⟩, h4⟩, h5⟩, h6⟩ := hb
 obtain rfl | rfl | rfl | rfl | rfl | rfl | rfl | rfl | rfl | rfl | rfl | rfl | rfl | rfl | rfl | rfl | rfl | rfl | rfl : v = 1 ∨ v = 2 ∨ v = 3 ∨ v = 4 ∨ v = 5 ∨ v = 6 ∨ v = 7 ∨ v = 8 ∨ v = 9 ∨ v = 10 ∨ v = 11 ∨ v = 12 ∨ v = 13 ∨ v = 14 ∨ v = 15 ∨ v = 16 ∨ v = 17 ∨ v = 18 ∨ v = 19 := by omega
 all_goals (rw [Bool.eq_iff_iff]; simp [countedR, bad4, withinB, lowR, highR, oneB, lowC, highC, uC, noughtC] <;> (try omega))
theorem bad6_eq (v : Int) (nm : List UInt8) : bad6R v nm = bad6 v nm := by
 unfold bad6R bad6
 cases uN v
 · simp
 · by_cases hn : nm = []
   · subst hn; simp [isName]
   · simp [hn]
theorem chkR_eq (w v m c s t k : Int) (nm : List UInt8) : chkR w v m c s t k nm = chk w v m c s t k nm := by
 unfold chkR chk
 cases hb : bad1 w v m with
 | true => simp
 | false =>
   rw [wanted_eq hb, about_eq hb, counted_eq hb, bad6_eq]
   unfold bad2
   simp
theorem rcheck_spec (ho : ∀ f, f ∈ [55, 109, 141, 111, 112, 113, 114, 115, 116] → orc f = none) (w v m c s t k : Int) (nm : List UInt8) (hs : 0 ≤ s ∧ s ≤ 255) (ht : 0 ≤ t ∧ t ≤ 255) (hk : 0 ≤ k ∧ k ≤ 255) (h : AH) :
    acall orc T 55 [.agg (part w v m c s t k nm)] h = some (.int .i64 (chk w v m c s t k nm), h) := by
 rw [← chkR_eq]
 refine acall_sym (ho _ (by simp)) tbl55 ?_
 have c1 := ruses_spec (orc := orc) (ho _ (by simp)) (ho _ (by simp)) v m
 have c2 := rkind_spec (orc := orc) (ho _ (by simp)) v
 have c3 := rwants_spec (orc := orc) (ho _ (by simp)) w
 have c4 := rabout_spec (orc := orc) (ho _ (by simp)) (ho _ (by simp)) w v m c s t k nm
 have c5 := rcounted_spec (orc := orc) (ho _ (by simp)) (ho _ (by simp)) w v m c s t k nm
 have c6 := rwithin_spec (orc := orc) (ho _ (by simp)) s 6 (uS v m)
 have c7 := rwithin_spec (orc := orc) (ho _ (by simp)) t 8 (uT v m)
 have c8 := rwithin_spec (orc := orc) (ho _ (by simp)) k 4 (uM v)
 have c9 := rname_spec (orc := orc) (ho _ (by simp)) nm
 have w1 := wrap_byte hs.1 hs.2
 have w2 := wrap_byte ht.1 ht.2
 have w3 := wrap_byte hk.1 hk.2
 clear hs ht hk
 unfold part at c4 c5 ⊢
 unfold chkR bad1 bad5 bad6R
 generalize withinB s (uS v m) 1 6 = S at *
 generalize withinB t (uT v m) 1 8 = U at *
 generalize withinB k (uM v) 1 4 = M at *
 generalize aboutR w v m = A at *
 generalize countedR v c = C at *
 generalize isName nm = Q at *
 generalize kindI v = K at *
 generalize wantsI w = W at *
 generalize uN v = bN at *
 refine GD ?_
 (have fct := Fj fsAstr (Fj @op_toInt (Fj @toIntV_int (Fj @c1 (Fj @c2 (Fj @c3 (Fj @c4 (Fj @c5 (Fj @c6 (Fj @c7 (Fj @c8 (Fj @c9 (Fj @w1 (Fj @w2 @w3))))))))))))); (repeat' first | refine A_walk ?_ | exact trivial | refine GuardK_split (fun hb => ?_) (fun hb => ?_) | refine CondK_split (fun hb => ?_) (fun hb => ?_) | refine CodeK_regionD _ ?_ | refine DGuardK_split (fun hb => ?_) (fun hb => ?_)); all_goals try clear fct)
 all_goals (clear c1 c2 c3 c4 c5 c6 c7 c8 c9 w1 w2 w3; simp_all)
end Go.Proofs.Ef
