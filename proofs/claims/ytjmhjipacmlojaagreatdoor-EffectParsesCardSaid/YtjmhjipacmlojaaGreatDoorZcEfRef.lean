/- The reference's check of a part, in plain words: it is the code's own. -/
import Derived.Test.YtjmhjipacmlojaaGreatDoorFz06
import Derived.Test.YtjmhjipacmlojaaGreatDoorZcEfBase
namespace Go.Proofs.Ef
open Go Go.Fs
set_option linter.unusedSimpArgs false
set_option linter.unusedVariables false
variable {orc : Orc}
def cf89 : CF := ⟨38, [(.tmp 4), (.tmp 5), (.tmp 6), (.tmp 7), (.tmp 8)], (.seq (.region [⟨(some 4), (.mv (.c (.bool false))), none⟩, ⟨(some 5), (.mv (.c (.bool false))), none⟩, ⟨(some 6), (.mv (.c (.bool false))), none⟩, ⟨(some 7), (.mv (.c (.bool false))), none⟩, ⟨(some 8), (.mv (.c (.bool false))), none⟩]) (.seq (.region [⟨(some 12), (.mv (.t 0)), none⟩, ⟨(some 13), (.call (.f 121) [(.t 12)]), none⟩, ⟨(some 11), (.mv (.t 13)), none⟩, ⟨(some 14), (.ext 0 (.t 11)), none⟩, ⟨(some 15), (.ext 1 (.t 11)), none⟩, ⟨(some 9), (.mv (.t 14)), none⟩, ⟨(some 10), (.mv (.t 15)), none⟩]) (.seq (.region [⟨(some 16), (.mv (.t 10)), none⟩, ⟨(some 17), (.bin .gtr .other (.t 16) (.c (.int .i64 0))), none⟩, ⟨(some 18), (.mv (.t 0)), none⟩, ⟨(some 19), (.bin .eql .other (.t 18) (.c (.int .u8 11))), none⟩, ⟨(some 20), (.mv (.t 19)), none⟩, ⟨(some 21), (.mv (.t 1)), (some (20, false))⟩, ⟨(some 22), (.bin .eql .other (.t 21) (.c (.int .u8 9))), (some (20, false))⟩, ⟨(some 23), (.pick (.t 20) (.c (.bool true)) (.t 22)), none⟩, ⟨(some 24), (.mv (.t 0)), none⟩, ⟨(some 25), (.bin .eql .other (.t 24) (.c (.int .u8 12))), none⟩, ⟨(some 26), (.mv (.t 25)), none⟩, ⟨(some 27), (.mv (.t 0)), (some (26, false))⟩, ⟨(some 28), (.bin .eql .other (.t 27) (.c (.int .u8 13))), (some (26, false))⟩, ⟨(some 29), (.pick (.t 26) (.c (.bool true)) (.t 28)), none⟩, ⟨(some 30), (.mv (.t 29)), none⟩, ⟨(some 31), (.mv (.t 1)), (some (30, false))⟩, ⟨(some 32), (.bin .eql .other (.t 31) (.c (.int .u8 10))), (some (30, false))⟩, ⟨(some 33), (.pick (.t 30) (.c (.bool true)) (.t 32)), none⟩, ⟨(some 34), (.mv (.t 0)), none⟩, ⟨(some 35), (.bin .eql .other (.t 34) (.c (.int .u8 9))), none⟩, ⟨(some 36), (.mv (.t 0)), none⟩, ⟨(some 37), (.bin .eql .other (.t 36) (.c (.int .u8 7))), none⟩, ⟨(some 4), (.mv (.t 17)), none⟩, ⟨(some 5), (.mv (.t 23)), none⟩, ⟨(some 6), (.mv (.t 33)), none⟩, ⟨(some 7), (.mv (.t 35)), none⟩, ⟨(some 8), (.mv (.t 37)), none⟩]) .ret)))⟩
def cf121 : CF := ⟨20, [(.tmp 2), (.tmp 3)], (.seq (.region [⟨(some 2), (.mv (.c (.int .i64 0))), none⟩, ⟨(some 3), (.mv (.c (.int .i64 0))), none⟩]) (.seq (.seq (.region [⟨(some 4), (.mv (.t 0)), none⟩]) (.block 0 (.seq (.seq (.region [⟨(some 6), (.bin .eql .other (.t 4) (.c (.int .u8 1))), none⟩, ⟨(some 5), (.mv (.t 6)), none⟩]) (.cond (.t 5) .skip (.seq (.region [⟨(some 7), (.bin .eql .other (.t 4) (.c (.int .u8 2))), none⟩, ⟨(some 5), (.mv (.t 7)), none⟩]) (.cond (.t 5) .skip (.seq (.region [⟨(some 8), (.bin .eql .other (.t 4) (.c (.int .u8 3))), none⟩, ⟨(some 5), (.mv (.t 8)), none⟩]) (.cond (.t 5) .skip (.seq (.region [⟨(some 9), (.bin .eql .other (.t 4) (.c (.int .u8 4))), none⟩, ⟨(some 5), (.mv (.t 9)), none⟩]) (.cond (.t 5) .skip (.seq (.region [⟨(some 10), (.bin .eql .other (.t 4) (.c (.int .u8 7))), none⟩, ⟨(some 5), (.mv (.t 10)), none⟩]) (.cond (.t 5) .skip (.seq (.region [⟨(some 11), (.bin .eql .other (.t 4) (.c (.int .u8 16))), none⟩, ⟨(some 5), (.mv (.t 11)), none⟩]) (.cond (.t 5) .skip (.region [⟨(some 12), (.bin .eql .other (.t 4) (.c (.int .u8 19))), none⟩, ⟨(some 5), (.mv (.t 12)), none⟩]))))))))))))) (.cond (.t 5) (.seq (.region [⟨(some 2), (.mv (.c (.int .i64 1))), none⟩, ⟨(some 3), (.mv (.c (.int .i64 99))), none⟩]) .ret) (.seq (.seq (.region [⟨(some 14), (.bin .eql .other (.t 4) (.c (.int .u8 9))), none⟩, ⟨(some 13), (.mv (.t 14)), none⟩]) (.cond (.t 13) .skip (.region [⟨(some 15), (.bin .eql .other (.t 4) (.c (.int .u8 15))), none⟩, ⟨(some 13), (.mv (.t 15)), none⟩]))) (.cond (.t 13) (.seq (.region [⟨(some 2), (.mv (.c (.int .i64 (-99)))), none⟩, ⟨(some 3), (.mv (.c (.int .i64 99))), none⟩]) .ret) (.seq (.region [⟨(some 17), (.bin .eql .other (.t 4) (.c (.int .u8 5))), none⟩, ⟨(some 16), (.mv (.t 17)), none⟩]) (.cond (.t 16) (.seq (.region [⟨(some 2), (.mv (.c (.int .i64 (-9)))), none⟩, ⟨(some 3), (.mv (.c (.int .i64 9))), none⟩]) .ret) (.seq (.region [⟨(some 19), (.bin .eql .other (.t 4) (.c (.int .u8 14))), none⟩, ⟨(some 18), (.mv (.t 19)), none⟩]) (.cond (.t 18) (.seq (.region [⟨(some 2), (.mv (.c (.int .i64 0))), none⟩, ⟨(some 3), (.mv (.c (.int .i64 99))), none⟩]) .ret) .skip)))))))))) (.seq (.region [⟨(some 2), (.mv (.c (.int .i64 0))), none⟩, ⟨(some 3), (.mv (.c (.int .i64 0))), none⟩]) .ret)))⟩
def cf91 : CF := ⟨24, [(.tmp 2)], (.seq (.region [⟨(some 2), (.mv (.c (.int .i64 0))), none⟩]) (.seq (.block 0 (.seq (.region [⟨(some 4), (.mv (.t 0)), none⟩, ⟨(some 5), (.bin .geq .other (.t 4) (.c (.int .u8 1))), none⟩, ⟨(some 6), (.mv (.t 5)), none⟩, ⟨(some 7), (.mv (.t 0)), (some (6, true))⟩, ⟨(some 8), (.bin .leq .other (.t 7) (.c (.int .u8 9))), (some (6, true))⟩, ⟨(some 9), (.pick (.t 6) (.t 8) (.c (.bool false))), none⟩, ⟨(some 3), (.mv (.t 9)), none⟩]) (.cond (.t 3) (.seq (.region [⟨(some 2), (.mv (.c (.int .i64 1))), none⟩]) .ret) (.seq (.region [⟨(some 11), (.mv (.t 0)), none⟩, ⟨(some 12), (.bin .geq .other (.t 11) (.c (.int .u8 10))), none⟩, ⟨(some 13), (.mv (.t 12)), none⟩, ⟨(some 14), (.mv (.t 0)), (some (13, true))⟩, ⟨(some 15), (.bin .leq .other (.t 14) (.c (.int .u8 15))), (some (13, true))⟩, ⟨(some 16), (.pick (.t 13) (.t 15) (.c (.bool false))), none⟩, ⟨(some 10), (.mv (.t 16)), none⟩]) (.cond (.t 10) (.seq (.region [⟨(some 2), (.mv (.c (.int .i64 2))), none⟩]) .ret) (.seq (.region [⟨(some 18), (.mv (.t 0)), none⟩, ⟨(some 19), (.bin .geq .other (.t 18) (.c (.int .u8 16))), none⟩, ⟨(some 20), (.mv (.t 19)), none⟩, ⟨(some 21), (.mv (.t 0)), (some (20, true))⟩, ⟨(some 22), (.bin .leq .other (.t 21) (.c (.int .u8 19))), (some (20, true))⟩, ⟨(some 23), (.pick (.t 20) (.t 22) (.c (.bool false))), none⟩, ⟨(some 17), (.mv (.t 23)), none⟩]) (.cond (.t 17) (.seq (.region [⟨(some 2), (.mv (.c (.int .i64 3))), none⟩]) .ret) .skip))))))) (.seq (.region [⟨(some 2), (.mv (.c (.int .i64 0))), none⟩]) .ret)))⟩
def cf92 : CF := ⟨16, [(.tmp 2)], (.seq (.region [⟨(some 2), (.mv (.c (.int .i64 0))), none⟩]) (.seq (.block 0 (.seq (.region [⟨(some 4), (.mv (.t 0)), none⟩, ⟨(some 5), (.bin .geq .other (.t 4) (.c (.int .u8 1))), none⟩, ⟨(some 6), (.mv (.t 5)), none⟩, ⟨(some 7), (.mv (.t 0)), (some (6, true))⟩, ⟨(some 8), (.bin .leq .other (.t 7) (.c (.int .u8 4))), (some (6, true))⟩, ⟨(some 9), (.pick (.t 6) (.t 8) (.c (.bool false))), none⟩, ⟨(some 3), (.mv (.t 9)), none⟩]) (.cond (.t 3) (.seq (.region [⟨(some 2), (.mv (.c (.int .i64 1))), none⟩]) .ret) (.seq (.region [⟨(some 11), (.mv (.t 0)), none⟩, ⟨(some 12), (.bin .eql .other (.t 11) (.c (.int .u8 5))), none⟩, ⟨(some 10), (.mv (.t 12)), none⟩]) (.cond (.t 10) (.seq (.region [⟨(some 2), (.mv (.c (.int .i64 2))), none⟩]) .ret) (.seq (.region [⟨(some 14), (.mv (.t 0)), none⟩, ⟨(some 15), (.bin .eql .other (.t 14) (.c (.int .u8 6))), none⟩, ⟨(some 13), (.mv (.t 15)), none⟩]) (.cond (.t 13) (.seq (.region [⟨(some 2), (.mv (.c (.int .i64 3))), none⟩]) .ret) .skip))))))) (.seq (.region [⟨(some 2), (.mv (.c (.int .i64 0))), none⟩]) .ret)))⟩
def cf93 : CF := ⟨53, [(.tmp 2)], (.seq (.region [⟨(some 1), (.box (.t 0)), none⟩, ⟨(some 2), (.mv (.c (.bool false))), none⟩]) (.seq (.region [⟨(some 4), (.faddr 2 (.t 1)), none⟩, ⟨(some 5), (.load none (.t 4)), none⟩, ⟨(some 6), (.bin .eql .other (.t 5) (.c (.int .u8 1))), none⟩, ⟨(some 7), (.mv (.t 6)), none⟩, ⟨(some 8), (.faddr 2 (.t 1)), (some (7, false))⟩, ⟨(some 9), (.load none (.t 8)), (some (7, false))⟩, ⟨(some 10), (.bin .eql .other (.t 9) (.c (.int .u8 2))), (some (7, false))⟩, ⟨(some 11), (.pick (.t 7) (.c (.bool true)) (.t 10)), none⟩, ⟨(some 3), (.mv (.t 11)), none⟩]) (.seq (.seq (.region [⟨(some 12), (.faddr 1 (.t 1)), none⟩, ⟨(some 13), (.load none (.t 12)), none⟩, ⟨(some 14), (.call (.f 91) [(.t 13)]), none⟩]) (.block 0 (.seq (.region [⟨(some 16), (.bin .eql .other (.t 14) (.c (.int .i64 1))), none⟩, ⟨(some 15), (.mv (.t 16)), none⟩]) (.cond (.t 15) (.seq (.seq (.region [⟨(some 17), (.mv (.t 3)), none⟩, ⟨(some 18), (.mv (.t 17)), none⟩, ⟨(some 19), (.faddr 1 (.t 1)), (some (18, true))⟩, ⟨(some 20), (.load none (.t 19)), (some (18, true))⟩, ⟨(some 21), (.bin .eql .other (.t 20) (.c (.int .u8 6))), (some (18, true))⟩, ⟨(some 22), (.mv (.t 21)), (some (18, true))⟩, ⟨(some 23), (.faddr 1 (.t 1)), (some (22, false))⟩, ⟨(some 24), (.load none (.t 23)), (some (22, false))⟩, ⟨(some 25), (.bin .eql .other (.t 24) (.c (.int .u8 8))), (some (22, false))⟩, ⟨(some 26), (.pick (.t 22) (.c (.bool true)) (.t 25)), (some (18, true))⟩, ⟨(some 27), (.mv (.t 26)), (some (18, true))⟩, ⟨(some 28), (.faddr 1 (.t 1)), (some (27, false))⟩, ⟨(some 29), (.load none (.t 28)), (some (27, false))⟩, ⟨(some 30), (.bin .eql .other (.t 29) (.c (.int .u8 9))), (some (27, false))⟩, ⟨(some 31), (.pick (.t 27) (.c (.bool true)) (.t 30)), (some (18, true))⟩, ⟨(some 32), (.pick (.t 18) (.t 31) (.c (.bool false))), none⟩]) (.cond (.t 32) (.seq (.region [⟨(some 2), (.mv (.c (.bool false))), none⟩]) .ret) .skip)) (.seq (.region [⟨(some 33), (.faddr 2 (.t 1)), none⟩, ⟨(some 34), (.load none (.t 33)), none⟩, ⟨(some 35), (.bin .neq .other (.t 34) (.c (.int .u8 3))), none⟩, ⟨(some 36), (.mv (.t 35)), none⟩, ⟨(some 37), (.faddr 0 (.t 1)), (some (36, false))⟩, ⟨(some 38), (.load none (.t 37)), (some (36, false))⟩, ⟨(some 39), (.bin .eql .other (.t 38) (.c (.int .u8 1))), (some (36, false))⟩, ⟨(some 40), (.pick (.t 36) (.c (.bool true)) (.t 39)), none⟩, ⟨(some 2), (.mv (.t 40)), none⟩]) .ret)) (.seq (.region [⟨(some 42), (.bin .eql .other (.t 14) (.c (.int .i64 2))), none⟩, ⟨(some 41), (.mv (.t 42)), none⟩]) (.cond (.t 41) (.seq (.region [⟨(some 43), (.mv (.t 3)), none⟩, ⟨(some 44), (.un .not (.t 43)), none⟩, ⟨(some 45), (.mv (.t 44)), none⟩, ⟨(some 46), (.faddr 2 (.t 1)), (some (45, true))⟩, ⟨(some 47), (.load none (.t 46)), (some (45, true))⟩, ⟨(some 48), (.bin .neq .other (.t 47) (.c (.int .u8 3))), (some (45, true))⟩, ⟨(some 49), (.pick (.t 45) (.t 48) (.c (.bool false))), none⟩, ⟨(some 2), (.mv (.t 49)), none⟩]) .ret) .skip)))))) (.seq (.region [⟨(some 50), (.faddr 2 (.t 1)), none⟩, ⟨(some 51), (.load none (.t 50)), none⟩, ⟨(some 52), (.bin .neq .other (.t 51) (.c (.int .u8 3))), none⟩, ⟨(some 2), (.mv (.t 52)), none⟩]) .ret))))⟩
def cf94 : CF := ⟨30, [(.tmp 2)], (.seq (.region [⟨(some 1), (.box (.t 0)), none⟩, ⟨(some 2), (.mv (.c (.bool false))), none⟩]) (.seq (.region [⟨(some 6), (.faddr 1 (.t 1)), none⟩, ⟨(some 7), (.load none (.t 6)), none⟩, ⟨(some 8), (.call (.f 121) [(.t 7)]), none⟩, ⟨(some 5), (.mv (.t 8)), none⟩, ⟨(some 9), (.ext 0 (.t 5)), none⟩, ⟨(some 10), (.ext 1 (.t 5)), none⟩, ⟨(some 3), (.mv (.t 9)), none⟩, ⟨(some 4), (.mv (.t 10)), none⟩]) (.seq (.region [⟨(some 11), (.faddr 3 (.t 1)), none⟩, ⟨(some 12), (.load none (.t 11)), none⟩, ⟨(some 13), (.mv (.t 3)), none⟩, ⟨(some 14), (.bin .geq .other (.t 12) (.t 13)), none⟩, ⟨(some 15), (.mv (.t 14)), none⟩, ⟨(some 16), (.faddr 3 (.t 1)), (some (15, true))⟩, ⟨(some 17), (.load none (.t 16)), (some (15, true))⟩, ⟨(some 18), (.mv (.t 4)), (some (15, true))⟩, ⟨(some 19), (.bin .leq .other (.t 17) (.t 18)), (some (15, true))⟩, ⟨(some 20), (.pick (.t 15) (.t 19) (.c (.bool false))), none⟩, ⟨(some 21), (.mv (.t 20)), none⟩, ⟨(some 22), (.mv (.t 3)), (some (21, true))⟩, ⟨(some 23), (.bin .geq .other (.t 22) (.c (.int .i64 0))), (some (21, true))⟩, ⟨(some 24), (.mv (.t 23)), (some (21, true))⟩, ⟨(some 25), (.faddr 3 (.t 1)), (some (24, false))⟩, ⟨(some 26), (.load none (.t 25)), (some (24, false))⟩, ⟨(some 27), (.bin .neq .other (.t 26) (.c (.int .i64 0))), (some (24, false))⟩, ⟨(some 28), (.pick (.t 24) (.c (.bool true)) (.t 27)), (some (21, true))⟩, ⟨(some 29), (.pick (.t 21) (.t 28) (.c (.bool false))), none⟩, ⟨(some 2), (.mv (.t 29)), none⟩]) .ret)))⟩
def cf95 : CF := ⟨18, [(.tmp 6)], (.seq (.region [⟨(some 6), (.mv (.c (.bool false))), none⟩]) (.seq (.seq (.region [⟨(some 7), (.mv (.t 0)), none⟩, ⟨(some 8), (.un .not (.t 7)), none⟩]) (.cond (.t 8) (.seq (.region [⟨(some 9), (.mv (.t 1)), none⟩, ⟨(some 10), (.bin .eql .other (.t 9) (.c (.int .i64 0))), none⟩, ⟨(some 6), (.mv (.t 10)), none⟩]) .ret) .skip)) (.seq (.region [⟨(some 11), (.mv (.t 1)), none⟩, ⟨(some 12), (.bin .geq .other (.t 11) (.c (.int .i64 1))), none⟩, ⟨(some 13), (.mv (.t 12)), none⟩, ⟨(some 14), (.mv (.t 1)), (some (13, true))⟩, ⟨(some 15), (.mv (.t 2)), (some (13, true))⟩, ⟨(some 16), (.bin .leq .other (.t 14) (.t 15)), (some (13, true))⟩, ⟨(some 17), (.pick (.t 13) (.t 16) (.c (.bool false))), none⟩, ⟨(some 6), (.mv (.t 17)), none⟩]) .ret)))⟩
def cf96 : CF := ⟨39, [(.tmp 2)], (.seq (.region [⟨(some 2), (.mv (.c (.bool false))), none⟩]) (.seq (.seq (.region [⟨(some 4), (.mv (.t 0)), none⟩, ⟨(some 5), (.lenS (.t 4)), none⟩, ⟨(some 6), (.bin .lss .other (.t 5) (.c (.int .i64 1))), none⟩, ⟨(some 7), (.mv (.t 6)), none⟩, ⟨(some 8), (.mv (.t 0)), (some (7, false))⟩, ⟨(some 9), (.lenS (.t 8)), (some (7, false))⟩, ⟨(some 10), (.bin .gtr .other (.t 9) (.c (.int .i64 20))), (some (7, false))⟩, ⟨(some 11), (.pick (.t 7) (.c (.bool true)) (.t 10)), none⟩, ⟨(some 12), (.mv (.t 11)), none⟩, ⟨(some 13), (.mv (.t 0)), (some (12, false))⟩, ⟨(some 14), (.idxS (.t 13) (.c (.int .i64 0))), (some (12, false))⟩, ⟨(some 15), (.bin .eql .other (.t 14) (.c (.int .u8 45))), (some (12, false))⟩, ⟨(some 16), (.pick (.t 12) (.c (.bool true)) (.t 15)), none⟩]) (.cond (.t 16) (.seq (.region [⟨(some 2), (.mv (.c (.bool false))), none⟩]) .ret) .skip)) (.seq (.seq (.region [⟨(some 3), (.mv (.c (.int .i64 0))), none⟩]) (.block 0 (.loop (.seq (.seq (.region [⟨(some 17), (.mv (.t 3)), none⟩, ⟨(some 18), (.mv (.t 0)), none⟩, ⟨(some 19), (.lenS (.t 18)), none⟩, ⟨(some 20), (.bin .lss .other (.t 17) (.t 19)), none⟩]) (.cond (.t 20) .skip (.exit 0))) (.seq (.block 1 (.seq (.region [⟨(some 23), (.mv (.t 0)), none⟩, ⟨(some 24), (.mv (.t 3)), none⟩, ⟨(some 25), (.idxS (.t 23) (.t 24)), none⟩, ⟨(some 26), (.bin .lss .other (.t 25) (.c (.int .u8 97))), none⟩, ⟨(some 27), (.mv (.t 26)), none⟩, ⟨(some 28), (.mv (.t 0)), (some (27, false))⟩, ⟨(some 29), (.mv (.t 3)), (some (27, false))⟩, ⟨(some 30), (.idxS (.t 28) (.t 29)), (some (27, false))⟩, ⟨(some 31), (.bin .gtr .other (.t 30) (.c (.int .u8 122))), (some (27, false))⟩, ⟨(some 32), (.pick (.t 27) (.c (.bool true)) (.t 31)), none⟩, ⟨(some 33), (.mv (.t 32)), none⟩, ⟨(some 34), (.mv (.t 0)), (some (33, true))⟩, ⟨(some 35), (.mv (.t 3)), (some (33, true))⟩, ⟨(some 36), (.idxS (.t 34) (.t 35)), (some (33, true))⟩, ⟨(some 37), (.bin .neq .other (.t 36) (.c (.int .u8 45))), (some (33, true))⟩, ⟨(some 38), (.pick (.t 33) (.t 37) (.c (.bool false))), none⟩]) (.cond (.t 38) (.seq (.region [⟨(some 2), (.mv (.c (.bool false))), none⟩]) .ret) .skip))) (.region [⟨(some 21), (.mv (.t 3)), none⟩, ⟨(some 22), (.bin .add .other (.t 21) (.c (.int .i64 1))), none⟩, ⟨(some 3), (.mv (.t 22)), none⟩])))))) (.seq (.region [⟨(some 2), (.mv (.c (.bool true))), none⟩]) .ret))))⟩
def cf46 : CF := ⟨113, [(.tmp 2)], (.seq (.region [⟨(some 1), (.box (.t 0)), none⟩, ⟨(some 2), (.mv (.c (.int .i64 0))), none⟩]) (.seq (.seq (.region [⟨(some 8), (.faddr 0 (.t 1)), none⟩, ⟨(some 9), (.load none (.t 8)), none⟩, ⟨(some 10), (.bin .lss .other (.t 9) (.c (.int .u8 1))), none⟩, ⟨(some 11), (.mv (.t 10)), none⟩, ⟨(some 12), (.faddr 0 (.t 1)), (some (11, false))⟩, ⟨(some 13), (.load none (.t 12)), (some (11, false))⟩, ⟨(some 14), (.bin .gtr .other (.t 13) (.c (.int .u8 6))), (some (11, false))⟩, ⟨(some 15), (.pick (.t 11) (.c (.bool true)) (.t 14)), none⟩, ⟨(some 16), (.mv (.t 15)), none⟩, ⟨(some 17), (.faddr 1 (.t 1)), (some (16, false))⟩, ⟨(some 18), (.load none (.t 17)), (some (16, false))⟩, ⟨(some 19), (.bin .lss .other (.t 18) (.c (.int .u8 1))), (some (16, false))⟩, ⟨(some 20), (.pick (.t 16) (.c (.bool true)) (.t 19)), none⟩, ⟨(some 21), (.mv (.t 20)), none⟩, ⟨(some 22), (.faddr 1 (.t 1)), (some (21, false))⟩, ⟨(some 23), (.load none (.t 22)), (some (21, false))⟩, ⟨(some 24), (.bin .gtr .other (.t 23) (.c (.int .u8 19))), (some (21, false))⟩, ⟨(some 25), (.pick (.t 21) (.c (.bool true)) (.t 24)), none⟩, ⟨(some 26), (.mv (.t 25)), none⟩, ⟨(some 27), (.faddr 2 (.t 1)), (some (26, false))⟩, ⟨(some 28), (.load none (.t 27)), (some (26, false))⟩, ⟨(some 29), (.bin .lss .other (.t 28) (.c (.int .u8 1))), (some (26, false))⟩, ⟨(some 30), (.pick (.t 26) (.c (.bool true)) (.t 29)), none⟩, ⟨(some 31), (.mv (.t 30)), none⟩, ⟨(some 32), (.faddr 2 (.t 1)), (some (31, false))⟩, ⟨(some 33), (.load none (.t 32)), (some (31, false))⟩, ⟨(some 34), (.bin .gtr .other (.t 33) (.c (.int .u8 10))), (some (31, false))⟩, ⟨(some 35), (.pick (.t 31) (.c (.bool true)) (.t 34)), none⟩]) (.cond (.t 35) (.seq (.region [⟨(some 2), (.mv (.c (.int .i64 2))), none⟩]) .ret) .skip)) (.seq (.region [⟨(some 37), (.faddr 1 (.t 1)), none⟩, ⟨(some 38), (.load none (.t 37)), none⟩, ⟨(some 39), (.faddr 2 (.t 1)), none⟩, ⟨(some 40), (.load none (.t 39)), none⟩, ⟨(some 41), (.call (.f 89) [(.t 38), (.t 40)]), none⟩, ⟨(some 36), (.mv (.t 41)), none⟩, ⟨(some 42), (.ext 0 (.t 36)), none⟩, ⟨(some 43), (.ext 1 (.t 36)), none⟩, ⟨(some 44), (.ext 2 (.t 36)), none⟩, ⟨(some 45), (.ext 3 (.t 36)), none⟩, ⟨(some 46), (.ext 4 (.t 36)), none⟩, ⟨(some 3), (.mv (.t 42)), none⟩, ⟨(some 4), (.mv (.t 43)), none⟩, ⟨(some 5), (.mv (.t 44)), none⟩, ⟨(some 6), (.mv (.t 45)), none⟩, ⟨(some 7), (.mv (.t 46)), none⟩]) (.seq (.block 0 (.seq (.regionD [⟨⟨(some 48), (.faddr 1 (.t 1)), none⟩, 0, 0, false⟩, ⟨⟨(some 49), (.load none (.t 48)), none⟩, 0, 0, false⟩, ⟨⟨(some 50), (.call (.f 91) [(.t 49)]), none⟩, 0, 1, false⟩, ⟨⟨(some 51), (.faddr 0 (.t 1)), none⟩, 0, 1, false⟩, ⟨⟨(some 52), (.load none (.t 51)), none⟩, 0, 1, false⟩, ⟨⟨(some 53), (.call (.f 92) [(.t 52)]), none⟩, 1, 2, false⟩, ⟨⟨(some 54), (.bin .neq .other (.t 50) (.t 53)), none⟩, 2, 2, false⟩, ⟨⟨(some 55), (.mv (.t 54)), none⟩, 2, 2, false⟩, ⟨⟨(some 56), (.faddr 1 (.t 1)), (some (55, false))⟩, 2, 2, false⟩, ⟨⟨(some 57), (.load none (.t 56)), (some (55, false))⟩, 2, 2, false⟩, ⟨⟨(some 58), (.bin .eql .other (.t 57) (.c (.int .u8 11))), (some (55, false))⟩, 2, 2, false⟩, ⟨⟨(some 59), (.mv (.t 58)), (some (55, false))⟩, 2, 2, false⟩, ⟨⟨(some 60), (.faddr 2 (.t 1)), (some (59, true))⟩, 2, 2, false⟩, ⟨⟨(some 61), (.load none (.t 60)), (some (59, true))⟩, 2, 2, false⟩, ⟨⟨(some 62), (.bin .eql .other (.t 61) (.c (.int .u8 9))), (some (59, true))⟩, 2, 2, false⟩, ⟨⟨(some 63), (.pick (.t 59) (.t 62) (.c (.bool false))), (some (55, false))⟩, 2, 2, false⟩, ⟨⟨(some 64), (.pick (.t 55) (.c (.bool true)) (.t 63)), none⟩, 2, 2, false⟩, ⟨⟨(some 47), (.mv (.t 64)), none⟩, 2, 2, false⟩]) (.cond (.t 47) (.seq (.region [⟨(some 2), (.mv (.c (.int .i64 8))), none⟩]) .ret) (.seq (.region [⟨(some 66), (.load (some 8) (.t 1)), none⟩, ⟨(some 67), (.call (.f 93) [(.t 66)]), none⟩, ⟨(some 68), (.un .not (.t 67)), none⟩, ⟨(some 65), (.mv (.t 68)), none⟩]) (.cond (.t 65) (.seq (.region [⟨(some 2), (.mv (.c (.int .i64 13))), none⟩]) .ret) (.seq (.region [⟨(some 70), (.load (some 8) (.t 1)), none⟩, ⟨(some 71), (.call (.f 94) [(.t 70)]), none⟩, ⟨(some 72), (.un .not (.t 71)), none⟩, ⟨(some 69), (.mv (.t 72)), none⟩]) (.cond (.t 69) (.seq (.region [⟨(some 2), (.mv (.c (.int .i64 2))), none⟩]) .ret) (.seq (.region [⟨(some 74), (.mv (.t 4)), none⟩, ⟨(some 75), (.faddr 4 (.t 1)), none⟩, ⟨(some 76), (.load none (.t 75)), none⟩, ⟨(some 77), (.toInt .i64 (.t 76)), none⟩, ⟨(some 78), (.call (.f 95) [(.t 74), (.t 77), (.c (.int .i64 6))]), none⟩, ⟨(some 79), (.un .not (.t 78)), none⟩, ⟨(some 80), (.mv (.t 79)), none⟩, ⟨(some 81), (.mv (.t 5)), (some (80, false))⟩, ⟨(some 82), (.faddr 5 (.t 1)), (some (80, false))⟩, ⟨(some 83), (.load none (.t 82)), (some (80, false))⟩, ⟨(some 84), (.toInt .i64 (.t 83)), (some (80, false))⟩, ⟨(some 85), (.call (.f 95) [(.t 81), (.t 84), (.c (.int .i64 8))]), (some (80, false))⟩, ⟨(some 86), (.un .not (.t 85)), (some (80, false))⟩, ⟨(some 87), (.pick (.t 80) (.c (.bool true)) (.t 86)), none⟩, ⟨(some 88), (.mv (.t 87)), none⟩, ⟨(some 89), (.mv (.t 6)), (some (88, false))⟩, ⟨(some 90), (.faddr 6 (.t 1)), (some (88, false))⟩, ⟨(some 91), (.load none (.t 90)), (some (88, false))⟩, ⟨(some 92), (.toInt .i64 (.t 91)), (some (88, false))⟩, ⟨(some 93), (.call (.f 95) [(.t 89), (.t 92), (.c (.int .i64 4))]), (some (88, false))⟩, ⟨(some 94), (.un .not (.t 93)), (some (88, false))⟩, ⟨(some 95), (.pick (.t 88) (.c (.bool true)) (.t 94)), none⟩, ⟨(some 73), (.mv (.t 95)), none⟩]) (.cond (.t 73) (.seq (.region [⟨(some 2), (.mv (.c (.int .i64 2))), none⟩]) .ret) (.seq (.region [⟨(some 97), (.mv (.t 7)), none⟩, ⟨(some 98), (.mv (.t 97)), none⟩, ⟨(some 99), (.faddr 7 (.t 1)), (some (98, true))⟩, ⟨(some 100), (.load none (.t 99)), (some (98, true))⟩, ⟨(some 101), (.call (.f 96) [(.t 100)]), (some (98, true))⟩, ⟨(some 102), (.un .not (.t 101)), (some (98, true))⟩, ⟨(some 103), (.pick (.t 98) (.t 102) (.c (.bool false))), none⟩, ⟨(some 104), (.mv (.t 103)), none⟩, ⟨(some 105), (.mv (.t 7)), (some (104, false))⟩, ⟨(some 106), (.un .not (.t 105)), (some (104, false))⟩, ⟨(some 107), (.mv (.t 106)), (some (104, false))⟩, ⟨(some 108), (.faddr 7 (.t 1)), (some (107, true))⟩, ⟨(some 109), (.load none (.t 108)), (some (107, true))⟩, ⟨(some 110), (.bin .neq .other (.t 109) (.c (.str []))), (some (107, true))⟩, ⟨(some 111), (.pick (.t 107) (.t 110) (.c (.bool false))), (some (104, false))⟩, ⟨(some 112), (.pick (.t 104) (.c (.bool true)) (.t 111)), none⟩, ⟨(some 96), (.mv (.t 112)), none⟩]) (.cond (.t 96) (.seq (.region [⟨(some 2), (.mv (.c (.int .i64 4))), none⟩]) .ret) .skip))))))))))) (.seq (.region [⟨(some 2), (.mv (.c (.int .i64 0))), none⟩]) .ret)))))⟩
theorem tbl89 : tbl Tryz.prog 89 = some cf89 := by kernel_rfl
theorem tbl121 : tbl Tryz.prog 121 = some cf121 := by kernel_rfl
theorem tbl91 : tbl Tryz.prog 91 = some cf91 := by kernel_rfl
theorem tbl92 : tbl Tryz.prog 92 = some cf92 := by kernel_rfl
theorem tbl93 : tbl Tryz.prog 93 = some cf93 := by kernel_rfl
theorem tbl94 : tbl Tryz.prog 94 = some cf94 := by kernel_rfl
theorem tbl95 : tbl Tryz.prog 95 = some cf95 := by kernel_rfl
theorem tbl96 : tbl Tryz.prog 96 = some cf96 := by kernel_rfl
theorem tbl46 : tbl Tryz.prog 46 = some cf46 := by kernel_rfl

def oneB (v : Int) : Bool := v == 1 || v == 2 || v == 3 || v == 4 || v == 7 || v == 16 || v == 19
def lowR (v : Int) : Int := if oneB v = true then 1 else if v = 9 ∨ v = 15 then -99 else if v = 5 then -9 else 0
def highR (v : Int) : Int := if oneB v = true then 99 else if v = 9 ∨ v = 15 then 99 else if v = 5 then 9 else if v = 14 then 99 else 0
def kindI (v : Int) : Int := if evB v = true then 1 else if stB v = true then 2 else if swB v = true then 3 else 0
def wantsI (w : Int) : Int := if 1 ≤ w ∧ w ≤ 4 then 1 else if w = 5 then 2 else if w = 6 then 3 else 0
def aboutR (w v m : Int) : Bool :=
  if evB v = true then (if plB m = true ∧ (v = 6 ∨ v = 8 ∨ v = 9) then false else (!(m == 3) || w == 1)) else if stB v = true then !plB m && !(m == 3) else !(m == 3)
def countedR (v c : Int) : Bool := decide (lowR v ≤ c) && decide (c ≤ highR v) && (decide (0 ≤ lowR v) || c != 0)

set_option maxRecDepth 100000 in
set_option maxHeartbeats 4000000 in
theorem rcounts_spec (ho : orc 121 = none) (v : Int) (h : AH) : acall orc T 121 [.int .u8 v] h = some (.tuple [.int .i64 (lowR v), .int .i64 (highR v)], h) := by
  refine acall_sym ho tbl121 ?_
  dsimp only [List.length, List.replicate, List.append, List.cons_append, List.nil_append, Nat.reduceAdd, Nat.reduceSub]
  repeat' first | (simp only [opsB, ctlB, Nat.reduceEqDiff, Nat.reduceBEq, Nat.reduceBNe, Int.reduceBEq, Int.reduceBNe, Int.reduceLT, Int.reduceLE, Int.reduceEq, CO.quiet, CO.reads, AV.one, AV.cells, CA.ev, abin, aint, aun, isShift, readVar, readCell, readCells, writeCells, fillA, reduceIte, Nat.reduceAdd, Nat.reduceSub, Nat.reduceLT, Nat.reduceLeDiff, resAll, resOne, AV.under, AV.unders, cut, put, DoneK, Kept, KeptOne, closeOp, *]) | (refine GuardK_split (fun hb => ?_) (fun hb => ?_)) | (refine CondK_split (fun hb => ?_) (fun hb => ?_)) | (refine CodeK_regionD _ ?_) | (refine DGuardK_split (fun hb => ?_) (fun hb => ?_))
  all_goals simp_all [lowR, highR, oneB]

theorem highR_pos (v : Int) : decide (0 < highR v) = uC v := by
  unfold highR uC oneB
  rw [Bool.eq_iff_iff, decide_eq_true_eq]
  simp only [Bool.or_eq_true, beq_iff_eq]
  split
  · omega
  · split
    · omega
    · split
      · omega
      · split <;> omega

set_option maxRecDepth 100000 in
set_option maxHeartbeats 4000000 in
theorem ruses_spec (ho : orc 89 = none) (ho1 : orc 121 = none) (v m : Int) (h : AH) : acall orc T 89 [.int .u8 v, .int .u8 m] h = some (.tuple [.bool (uC v), .bool (uS v m), .bool (uT v m), .bool (uM v), .bool (uN v)], h) := by
  refine acall_sym ho tbl89 ?_
  have c1 := rcounts_spec ho1 v
  have e1 := highR_pos v
  dsimp only [List.length, List.replicate, List.append, List.cons_append, List.nil_append, Nat.reduceAdd, Nat.reduceSub]
  repeat' first | (simp only [opsB, ctlB, Nat.reduceEqDiff, Nat.reduceBEq, Nat.reduceBNe, Int.reduceBEq, Int.reduceBNe, Int.reduceLT, Int.reduceLE, Int.reduceEq, CO.quiet, CO.reads, AV.one, AV.cells, CA.ev, abin, aint, aun, isShift, readVar, readCell, readCells, writeCells, fillA, reduceIte, Nat.reduceAdd, Nat.reduceSub, Nat.reduceLT, Nat.reduceLeDiff, resAll, resOne, AV.under, AV.unders, cut, put, DoneK, Kept, KeptOne, closeOp, c1, *]) | (refine GuardK_split (fun hb => ?_) (fun hb => ?_)) | (refine CondK_split (fun hb => ?_) (fun hb => ?_)) | (refine CodeK_regionD _ ?_) | (refine DGuardK_split (fun hb => ?_) (fun hb => ?_))
  all_goals simp_all [uS, uT, uM, uN]

set_option maxRecDepth 100000 in
theorem rkind_spec (ho : orc 91 = none) (v : Int) (h : AH) : acall orc T 91 [.int .u8 v] h = some (.int .i64 (kindI v), h) := by
  refine acall_sym ho tbl91 ?_
  dsimp only [List.length, List.replicate, List.append, List.cons_append, List.nil_append, Nat.reduceAdd, Nat.reduceSub]
  repeat' first | (simp only [opsB, ctlB, Nat.reduceEqDiff, Nat.reduceBEq, Nat.reduceBNe, Int.reduceBEq, Int.reduceBNe, Int.reduceLT, Int.reduceLE, Int.reduceEq, CO.quiet, CO.reads, AV.one, AV.cells, CA.ev, abin, aint, aun, isShift, readVar, readCell, readCells, writeCells, fillA, reduceIte, Nat.reduceAdd, Nat.reduceSub, Nat.reduceLT, Nat.reduceLeDiff, resAll, resOne, AV.under, AV.unders, cut, put, DoneK, Kept, KeptOne, closeOp, *]) | (refine GuardK_split (fun hb => ?_) (fun hb => ?_)) | (refine CondK_split (fun hb => ?_) (fun hb => ?_)) | (refine CodeK_regionD _ ?_) | (refine DGuardK_split (fun hb => ?_) (fun hb => ?_))
  all_goals (simp_all [kindI, evB, stB, swB] <;> omega)
set_option maxRecDepth 100000 in
theorem rwants_spec (ho : orc 92 = none) (v : Int) (h : AH) : acall orc T 92 [.int .u8 v] h = some (.int .i64 (wantsI v), h) := by
  refine acall_sym ho tbl92 ?_
  dsimp only [List.length, List.replicate, List.append, List.cons_append, List.nil_append, Nat.reduceAdd, Nat.reduceSub]
  repeat' first | (simp only [opsB, ctlB, Nat.reduceEqDiff, Nat.reduceBEq, Nat.reduceBNe, Int.reduceBEq, Int.reduceBNe, Int.reduceLT, Int.reduceLE, Int.reduceEq, CO.quiet, CO.reads, AV.one, AV.cells, CA.ev, abin, aint, aun, isShift, readVar, readCell, readCells, writeCells, fillA, reduceIte, Nat.reduceAdd, Nat.reduceSub, Nat.reduceLT, Nat.reduceLeDiff, resAll, resOne, AV.under, AV.unders, cut, put, DoneK, Kept, KeptOne, closeOp, *]) | (refine GuardK_split (fun hb => ?_) (fun hb => ?_)) | (refine CondK_split (fun hb => ?_) (fun hb => ?_)) | (refine CodeK_regionD _ ?_) | (refine DGuardK_split (fun hb => ?_) (fun hb => ?_))
  all_goals (simp_all [wantsI] <;> omega)

set_option maxRecDepth 100000 in
set_option maxHeartbeats 8000000 in
theorem rabout_spec (ho : orc 93 = none) (ho1 : orc 91 = none) (w v m c s t k : Int) (nm : List UInt8) (h : AH) : acall orc T 93 [.agg (part w v m c s t k nm)] h = some (.bool (aboutR w v m), h) := by
  refine acall_sym ho tbl93 ?_
  have c1 := rkind_spec ho1 v
  unfold part
  dsimp only [List.length, List.replicate, List.append, List.cons_append, List.nil_append, Nat.reduceAdd, Nat.reduceSub]
  unfold kindI at c1
  unfold aboutR
  cases hE : evB v <;> cases hS : stB v <;> cases hW : swB v
  all_goals (
    simp only [hE, hS, hW, Bool.false_eq_true, if_false, if_true] at c1
    simp only [Bool.false_eq_true, if_false, if_true]
    repeat' first | (simp only [opsB, ctlB, Nat.reduceEqDiff, Nat.reduceBEq, Nat.reduceBNe, Int.reduceBEq, Int.reduceBNe, Int.reduceLT, Int.reduceLE, Int.reduceEq, CO.quiet, CO.reads, AV.one, AV.cells, CA.ev, abin, aint, aun, isShift, readVar, readCell, readCells, writeCells, fillA, reduceIte, Nat.reduceAdd, Nat.reduceSub, Nat.reduceLT, Nat.reduceLeDiff, resAll, resOne, AV.under, AV.unders, cut, put, DoneK, Kept, KeptOne, closeOp, aun, c1, *]) | (refine GuardK_split (fun hb => ?_) (fun hb => ?_)) | (refine CondK_split (fun hb => ?_) (fun hb => ?_)) | (refine CodeK_regionD _ ?_) | (refine DGuardK_split (fun hb => ?_) (fun hb => ?_))
    all_goals (simp_all [plB, bne] <;> (try omega)))

set_option maxRecDepth 100000 in
set_option maxHeartbeats 4000000 in
theorem rcounted_spec (ho : orc 94 = none) (ho1 : orc 121 = none) (w v m c s t k : Int) (nm : List UInt8) (h : AH) : acall orc T 94 [.agg (part w v m c s t k nm)] h = some (.bool (countedR v c), h) := by
  refine acall_sym ho tbl94 ?_
  have c1 := rcounts_spec ho1 v
  unfold part countedR
  generalize lowR v = lo at *
  generalize highR v = hi at *
  dsimp only [List.length, List.replicate, List.append, List.cons_append, List.nil_append, Nat.reduceAdd, Nat.reduceSub]
  repeat' first | (simp only [opsB, ctlB, Nat.reduceEqDiff, Nat.reduceBEq, Nat.reduceBNe, Int.reduceBEq, Int.reduceBNe, Int.reduceLT, Int.reduceLE, Int.reduceEq, CO.quiet, CO.reads, AV.one, AV.cells, CA.ev, abin, aint, aun, isShift, readVar, readCell, readCells, writeCells, fillA, reduceIte, Nat.reduceAdd, Nat.reduceSub, Nat.reduceLT, Nat.reduceLeDiff, resAll, resOne, AV.under, AV.unders, cut, put, DoneK, Kept, KeptOne, closeOp, aun, c1, *]) | (refine GuardK_split (fun hb => ?_) (fun hb => ?_)) | (refine CondK_split (fun hb => ?_) (fun hb => ?_)) | (refine CodeK_regionD _ ?_) | (refine DGuardK_split (fun hb => ?_) (fun hb => ?_))
  all_goals simp_all

set_option maxRecDepth 100000 in
theorem rwithin_spec (ho : orc 95 = none) (x high : Int) (u : Bool) (h : AH) : acall orc T 95 [.bool u, .int .i64 x, .int .i64 high] h = some (.bool (withinB x u 1 high), h) := by
  refine acall_sym ho tbl95 ?_
  dsimp only [List.length, List.replicate, List.append, List.cons_append, List.nil_append, Nat.reduceAdd, Nat.reduceSub]
  cases u <;> repeat' first | (simp only [opsB, ctlB, Nat.reduceEqDiff, Nat.reduceBEq, Nat.reduceBNe, Int.reduceBEq, Int.reduceBNe, Int.reduceLT, Int.reduceLE, Int.reduceEq, CO.quiet, CO.reads, AV.one, AV.cells, CA.ev, abin, aint, aun, isShift, readVar, readCell, readCells, writeCells, fillA, reduceIte, Nat.reduceAdd, Nat.reduceSub, Nat.reduceLT, Nat.reduceLeDiff, resAll, resOne, AV.under, AV.unders, cut, put, DoneK, Kept, KeptOne, closeOp, aun, *]) | (refine GuardK_split (fun hb => ?_) (fun hb => ?_)) | (refine CondK_split (fun hb => ?_) (fun hb => ?_)) | (refine CodeK_regionD _ ?_) | (refine DGuardK_split (fun hb => ?_) (fun hb => ?_))
  all_goals (simp_all [withinB] <;> omega)

/-! ### Names -/
theorem bad_byte (b : UInt8) : ((decide ((b.toNat : Int) < 97) || decide ((122 : Int) < (b.toNat : Int))) && ((b.toNat : Int) != 45)) = !cutset.contains b := by
  have hh : ∀ n : Fin 256, ((decide (((UInt8.ofNat n.val).toNat : Int) < 97) || decide ((122 : Int) < ((UInt8.ofNat n.val).toNat : Int))) && (((UInt8.ofNat n.val).toNat : Int) != 45)) = !cutset.contains (UInt8.ofNat n.val) := by decide +kernel
  have := hh ⟨b.toNat, b.toNat_lt⟩
  simpa using this

theorem idxSV_nat {s : List UInt8} {i : Nat} {b : UInt8} (hb : s[i]? = some b) (k : IntKind) (h : AH) : idxSV (.str s) (.int k (i : Int)) h = some (.int .u8 b.toNat, h) := by
  simp [idxSV, hb]

def allC (s : List UInt8) : Bool := s.all (cutset.contains ·)
structure NmI (s : List UInt8) (h0 : AH) (n : Nat) (tm : List AV) (h : AH) : Prop where
  len : tm.length = 39
  t0 : tm.getD 0 AV.undef = .str s
  hp : h = h0.withLow h0.n
  st : ∃ i : Nat, n = s.length - i ∧ i ≤ s.length ∧ tm.getD 3 AV.undef = .int .i64 (i : Int) ∧ allC (s.take i) = true

theorem isName_cons {b : UInt8} {s : List UInt8} (hl : s.length + 1 ≤ 20) (hb : ((b.toNat : Int) != 45) = true) : isName (b :: s) = allC (b :: s) := by
  have e1 : decide (1 ≤ (b :: s).length) = true := by simp
  have e2 : decide ((b :: s).length ≤ 20) = true := by simpa using hl
  rw [isName, e1, e2, List.headD_cons, hb, Bool.true_and, Bool.true_and, Bool.true_and]; rfl

theorem all_take_false {s : List UInt8} {i : Nat} {b : UInt8} (hb : s[i]? = some b) (hp : cutset.contains b = false) : allC s = false := by
  unfold allC
  rw [Bool.eq_false_iff]
  intro h
  rw [List.all_eq_true] at h
  have := h b (List.mem_of_getElem? hb)
  rw [hp] at this; cases this
theorem all_take_succ {s : List UInt8} {i : Nat} {b : UInt8} (hb : s[i]? = some b) (hp : cutset.contains b = true) (ha : allC (s.take i) = true) : allC (s.take (i + 1)) = true := by
  unfold allC at ha ⊢
  rw [List.take_add_one, hb, List.all_append, ha]
  simp only [Option.toList_some, List.all_cons, List.all_nil, hp, Bool.and_self]

set_option maxRecDepth 100000 in
set_option maxHeartbeats 8000000 in
theorem rname_spec (ho : orc 96 = none) (s : List UInt8) (h : AH) : acall orc T 96 [.str s] h = some (.bool (isName s), h) := by
  refine acall_sym ho tbl96 ?_
  cases s with
  | nil =>
    dsimp only [List.length, List.replicate, List.append, List.cons_append, List.nil_append, Nat.reduceAdd, Nat.reduceSub]
    have l1 : decide (((0 : Nat) : Int) < 1) = true := by decide
    repeat' first | (simp only [opsB, ctlB, Nat.reduceEqDiff, Nat.reduceBEq, Nat.reduceBNe, Int.reduceBEq, Int.reduceBNe, Int.reduceLT, Int.reduceLE, Int.reduceEq, CO.quiet, CO.reads, AV.one, AV.cells, CA.ev, abin, aint, aun, isShift, readVar, readCell, readCells, writeCells, fillA, reduceIte, Nat.reduceAdd, Nat.reduceSub, Nat.reduceLT, Nat.reduceLeDiff, resAll, resOne, AV.under, AV.unders, cut, put, DoneK, Kept, KeptOne, closeOp, l1, *]) | (refine GuardK_split (fun hb => ?_) (fun hb => ?_)) | (refine CondK_split (fun hb => ?_) (fun hb => ?_)) | (refine CodeK_regionD _ ?_) | (refine DGuardK_split (fun hb => ?_) (fun hb => ?_))
    all_goals simp_all [isName]
  | cons b s =>
    have l1 : decide (((s.length + 1 : Nat) : Int) < 1) = false := by rw [decide_eq_false_iff_not]; omega
    by_cases hl : s.length + 1 ≤ 20
    · have l2 : decide ((20 : Int) < ((s.length + 1 : Nat) : Int)) = false := by rw [decide_eq_false_iff_not]; omega
      cases hb0 : ((b.toNat : Int) != 45) with
      | false =>
        have hb1 : ((b.toNat : Int) == 45) = true := by rw [bne, Bool.not_eq_false'] at hb0; exact hb0
        have hE : isName (b :: s) = false := by simp only [isName, List.headD_cons, hb0, Bool.and_false, Bool.false_and]
        rw [hE]
        dsimp only [List.length, List.replicate, List.append, List.cons_append, List.nil_append, Nat.reduceAdd, Nat.reduceSub]
        repeat' first | (simp only [opsB, ctlB, Nat.reduceEqDiff, Nat.reduceBEq, Nat.reduceBNe, Int.reduceBEq, Int.reduceBNe, Int.reduceLT, Int.reduceLE, Int.reduceEq, CO.quiet, CO.reads, AV.one, AV.cells, CA.ev, abin, aint, aun, isShift, readVar, readCell, readCells, writeCells, fillA, reduceIte, Nat.reduceAdd, Nat.reduceSub, Nat.reduceLT, Nat.reduceLeDiff, resAll, resOne, AV.under, AV.unders, cut, put, DoneK, Kept, KeptOne, closeOp, l1, l2, op_idxS, idxSV_zero, hb1, *]) | (refine GuardK_split (fun hb => ?_) (fun hb => ?_)) | (refine CondK_split (fun hb => ?_) (fun hb => ?_)) | (refine CodeK_regionD _ ?_) | (refine DGuardK_split (fun hb => ?_) (fun hb => ?_))
      | true =>
        have hb1 : ((b.toNat : Int) == 45) = false := by rw [bne, Bool.not_eq_true'] at hb0; exact hb0
        rw [isName_cons hl hb0]
        dsimp only [List.length, List.replicate, List.append, List.cons_append, List.nil_append, Nat.reduceAdd, Nat.reduceSub]
        repeat' first | (simp only [opsB, ctlB, Nat.reduceEqDiff, Nat.reduceBEq, Nat.reduceBNe, Int.reduceBEq, Int.reduceBNe, Int.reduceLT, Int.reduceLE, Int.reduceEq, CO.quiet, CO.reads, AV.one, AV.cells, CA.ev, abin, aint, aun, isShift, readVar, readCell, readCells, writeCells, fillA, reduceIte, Nat.reduceAdd, Nat.reduceSub, Nat.reduceLT, Nat.reduceLeDiff, resAll, resOne, AV.under, AV.unders, cut, put, DoneK, Kept, KeptOne, closeOp, l1, l2, op_idxS, idxSV_zero, hb1, *]) | (refine GuardK_split (fun hb => ?_) (fun hb => ?_)) | (refine CondK_split (fun hb => ?_) (fun hb => ?_)) | (refine CodeK_regionD _ ?_) | (refine DGuardK_split (fun hb => ?_) (fun hb => ?_))
        have hlen : (b :: s).length ≤ 20 := by simpa using hl
        generalize hS : b :: s = S at *
        refine CodeK_loop (NmI S h) S.length ?_ ?_
        · exact ⟨rfl, rfl, rfl, 0, rfl, Nat.zero_le _, rfl, rfl⟩
        clear hS l1 l2 hb0 hb1 hl
        intro n tm h' I
        obtain ⟨i, hn, hi, e3, ha⟩ := I.st
        have el := I.len
        have e0 := I.t0
        obtain rfl := I.hp
        by_cases hlt : i < S.length
        case neg =>
          obtain rfl : i = S.length := by omega
          have l1 : decide (((S.length : Nat) : Int) < ((S.length : Nat) : Int)) = false := by rw [decide_eq_false_iff_not]; omega
          rw [List.take_length] at ha
          rw [ha]
          repeat' first | (simp only [opsB, ctlB, Nat.reduceEqDiff, Nat.reduceBEq, Nat.reduceBNe, Int.reduceBEq, Int.reduceBNe, Int.reduceLT, Int.reduceLE, Int.reduceEq, CO.quiet, CO.reads, AV.one, AV.cells, CA.ev, abin, aint, aun, isShift, readVar, readCell, readCells, writeCells, fillA, reduceIte, Nat.reduceAdd, Nat.reduceSub, Nat.reduceLT, Nat.reduceLeDiff, resAll, resOne, AV.under, AV.unders, cut, put, DoneK, Kept, KeptOne, closeOp, el, e0, e3, l1, tmset_self, tmset_ne, List.length_set, Nat.reduceBEq, Nat.reduceLT, *]) | (refine GuardK_split (fun hb => ?_) (fun hb => ?_)) | (refine CondK_split (fun hb => ?_) (fun hb => ?_)) | (refine CodeK_regionD _ ?_) | (refine DGuardK_split (fun hb => ?_) (fun hb => ?_))
        case pos =>
          have l1 : decide (((i : Nat) : Int) < ((S.length : Nat) : Int)) = true := by rw [decide_eq_true_eq]; omega
          have w1 : IntKind.wrap .i64 ((i : Int) + 1) = ((i + 1 : Nat) : Int) := by rw [wrap_i64 (by omega) (by omega)]; omega
          obtain ⟨x, hx⟩ : ∃ x, S[i]? = some x := ⟨_, List.getElem?_eq_getElem hlt⟩
          have c1 := fun h => idxSV_nat hx .i64 h
          have hbb : cutset.contains x = !((decide ((x.toNat : Int) < 97) || decide ((122 : Int) < (x.toNat : Int))) && ((x.toNat : Int) != 45)) := by rw [bad_byte, Bool.not_not]
          cases hA : decide ((x.toNat : Int) < 97) <;> cases hB : decide ((122 : Int) < (x.toNat : Int)) <;> cases hC : ((x.toNat : Int) != 45)
          all_goals (
            rw [hA, hB, hC] at hbb
            simp only [Bool.or_false, Bool.or_true, Bool.and_true, Bool.and_false, Bool.not_true, Bool.not_false] at hbb
            first
            | (have hp : cutset.contains x = true := hbb
               clear hbb
               repeat' first | (simp only [opsB, ctlB, Nat.reduceEqDiff, Nat.reduceBEq, Nat.reduceBNe, Int.reduceBEq, Int.reduceBNe, Int.reduceLT, Int.reduceLE, Int.reduceEq, CO.quiet, CO.reads, AV.one, AV.cells, CA.ev, abin, aint, aun, isShift, readVar, readCell, readCells, writeCells, fillA, reduceIte, Nat.reduceAdd, Nat.reduceSub, Nat.reduceLT, Nat.reduceLeDiff, resAll, resOne, AV.under, AV.unders, cut, put, DoneK, Kept, KeptOne, closeOp, el, e0, e3, l1, w1, op_idxS, c1, hA, hB, hC, tmset_self, tmset_ne, List.length_set, Nat.reduceBEq, Nat.reduceLT, *]) | (refine GuardK_split (fun hb => ?_) (fun hb => ?_)) | (refine CondK_split (fun hb => ?_) (fun hb => ?_)) | (refine CodeK_regionD _ ?_) | (refine DGuardK_split (fun hb => ?_) (fun hb => ?_))
               exact ⟨S.length - (i + 1), by omega, by simp only [List.length_set, el], by simp only [tmset_self, tmset_ne, List.length_set, Nat.reduceBEq, Nat.reduceLT, el, e0], rfl, i + 1, rfl, by omega, by simp only [tmset_self, tmset_ne, List.length_set, Nat.reduceBEq, Nat.reduceLT, el], all_take_succ hx hp ha⟩)
            | (have hp : cutset.contains x = false := hbb
               clear hbb
               rw [all_take_false hx hp]
               repeat' first | (simp only [opsB, ctlB, Nat.reduceEqDiff, Nat.reduceBEq, Nat.reduceBNe, Int.reduceBEq, Int.reduceBNe, Int.reduceLT, Int.reduceLE, Int.reduceEq, CO.quiet, CO.reads, AV.one, AV.cells, CA.ev, abin, aint, aun, isShift, readVar, readCell, readCells, writeCells, fillA, reduceIte, Nat.reduceAdd, Nat.reduceSub, Nat.reduceLT, Nat.reduceLeDiff, resAll, resOne, AV.under, AV.unders, cut, put, DoneK, Kept, KeptOne, closeOp, el, e0, e3, l1, w1, op_idxS, c1, hA, hB, hC, tmset_self, tmset_ne, List.length_set, Nat.reduceBEq, Nat.reduceLT, *]) | (refine GuardK_split (fun hb => ?_) (fun hb => ?_)) | (refine CondK_split (fun hb => ?_) (fun hb => ?_)) | (refine CodeK_regionD _ ?_) | (refine DGuardK_split (fun hb => ?_) (fun hb => ?_))))
    · have l2 : decide ((20 : Int) < ((s.length + 1 : Nat) : Int)) = true := by rw [decide_eq_true_eq]; omega
      have hE : isName (b :: s) = false := by
        have e2 : decide ((b :: s).length ≤ 20) = false := by simpa using hl
        rw [isName, e2, Bool.and_false, Bool.false_and, Bool.false_and]
      rw [hE]
      dsimp only [List.length, List.replicate, List.append, List.cons_append, List.nil_append, Nat.reduceAdd, Nat.reduceSub]
      repeat' first | (simp only [opsB, ctlB, Nat.reduceEqDiff, Nat.reduceBEq, Nat.reduceBNe, Int.reduceBEq, Int.reduceBNe, Int.reduceLT, Int.reduceLE, Int.reduceEq, CO.quiet, CO.reads, AV.one, AV.cells, CA.ev, abin, aint, aun, isShift, readVar, readCell, readCells, writeCells, fillA, reduceIte, Nat.reduceAdd, Nat.reduceSub, Nat.reduceLT, Nat.reduceLeDiff, resAll, resOne, AV.under, AV.unders, cut, put, DoneK, Kept, KeptOne, closeOp, l1, l2, *]) | (refine GuardK_split (fun hb => ?_) (fun hb => ?_)) | (refine CondK_split (fun hb => ?_) (fun hb => ?_)) | (refine CodeK_regionD _ ?_) | (refine DGuardK_split (fun hb => ?_) (fun hb => ?_))

/-! ### Check -/
def bad6R (v : Int) (nm : List UInt8) : Bool := if uN v = true then !isName nm else !decide (nm = [])
def chkR (w v m c s t k : Int) (nm : List UInt8) : Int :=
  if bad1 w v m = true then 2 else if (kindI v != wantsI w || (v == 11 && m == 9)) = true then 8 else if aboutR w v m = false then 13 else if countedR v c = false then 2
  else if bad5 v m s t k = true then 2 else if bad6R v nm = true then 4 else 0

theorem wanted_eq {w v m : Int} (hb : bad1 w v m = false) : (kindI v != wantsI w) = !wantedB w v := by
  unfold bad1 at hb
  simp only [Bool.or_eq_false_iff, decide_eq_false_iff_not] at hb
  obtain ⟨⟨⟨⟨⟨h1, h2⟩, h3⟩, h4⟩, h5⟩, h6⟩ := hb
  rw [Bool.eq_iff_iff]
  unfold kindI wantsI wantedB evB stB swB
  simp only [bne_iff_ne, ne_eq, Bool.not_eq_true', Bool.and_eq_true, decide_eq_true_eq]
  by_cases a1 : 1 ≤ v ∧ v ≤ 9 <;> by_cases a2 : 10 ≤ v ∧ v ≤ 15 <;> by_cases a3 : 16 ≤ v ∧ v ≤ 19 <;> by_cases b1 : 1 ≤ w ∧ w ≤ 4 <;> by_cases b2 : w = 5 <;> by_cases b3 : w = 6 <;> simp [a1, a2, a3, b1, b2, b3] <;> omega
theorem about_eq {w v m : Int} (hb : bad1 w v m = false) : aboutR w v m = aboutB w v m := by
  unfold bad1 at hb
  simp only [Bool.or_eq_false_iff, decide_eq_false_iff_not] at hb
  obtain ⟨⟨⟨⟨⟨h1, h2⟩, h3⟩, h4⟩, h5⟩, h6⟩ := hb
  unfold aboutR aboutB evB stB swB plB
  rw [Bool.eq_iff_iff]
  simp only [bne_iff_ne, ne_eq, Bool.not_eq_true', Bool.and_eq_true, decide_eq_true_eq, Bool.or_eq_true, beq_iff_eq]
  by_cases a1 : 1 ≤ v ∧ v ≤ 9 <;> by_cases a2 : 10 ≤ v ∧ v ≤ 15 <;> by_cases a3 : 16 ≤ v ∧ v ≤ 19 <;> by_cases m3 : m = 3 <;> by_cases m1 : m = 1 <;> by_cases m2 : m = 2 <;> simp [a1, a2, a3, m1, m2, m3] <;> (try omega)
theorem counted_eq {w v m c : Int} (hb : bad1 w v m = false) : countedR v c = !bad4 v c := by
  unfold bad1 at hb
  simp only [Bool.or_eq_false_iff, decide_eq_false_iff_not] at hb
  obtain ⟨⟨⟨⟨⟨h1, h2⟩, h3⟩, h4⟩, h5⟩, h6⟩ := hb
  obtain rfl | rfl | rfl | rfl | rfl | rfl | rfl | rfl | rfl | rfl | rfl | rfl | rfl | rfl | rfl | rfl | rfl | rfl | rfl : v = 1 ∨ v = 2 ∨ v = 3 ∨ v = 4 ∨ v = 5 ∨ v = 6 ∨ v = 7 ∨ v = 8 ∨ v = 9 ∨ v = 10 ∨ v = 11 ∨ v = 12 ∨ v = 13 ∨ v = 14 ∨ v = 15 ∨ v = 16 ∨ v = 17 ∨ v = 18 ∨ v = 19 := by omega
  all_goals (rw [Bool.eq_iff_iff]; simp [countedR, bad4, withinB, lowR, highR, oneB, lowC, highC, uC, noughtC] <;> (try omega))
theorem bad6_eq (v : Int) (nm : List UInt8) : bad6R v nm = bad6 v nm := by
  unfold bad6R bad6
  cases uN v
  · simp
  · by_cases hn : nm = []
    · subst hn; simp [isName]
    · simp [hn]

theorem chkR_eq (w v m c s t k : Int) (nm : List UInt8) : chkR w v m c s t k nm = chk w v m c s t k nm := by
  unfold chkR chk
  cases hb : bad1 w v m with
  | true => simp
  | false =>
    rw [wanted_eq hb, about_eq hb, counted_eq hb, bad6_eq]
    unfold bad2
    simp

theorem wrap_byte {s : Int} (h1 : 0 ≤ s) (h2 : s ≤ 255) : IntKind.wrap .i64 s = s := by
  obtain ⟨n, rfl⟩ := Int.eq_ofNat_of_zero_le h1
  exact wrap_i64 (by omega) (by omega)

set_option maxRecDepth 100000 in
set_option maxHeartbeats 16000000 in
theorem rcheck_spec (ho : ∀ f, f ∈ [46, 89, 121, 91, 92, 93, 94, 95, 96] → orc f = none) (w v m c s t k : Int) (nm : List UInt8) (hs : 0 ≤ s ∧ s ≤ 255) (ht : 0 ≤ t ∧ t ≤ 255) (hk : 0 ≤ k ∧ k ≤ 255) (h : AH) :
    acall orc T 46 [.agg (part w v m c s t k nm)] h = some (.int .i64 (chk w v m c s t k nm), h) := by
  rw [← chkR_eq]
  refine acall_sym (ho _ (by simp)) tbl46 ?_
  have c1 := ruses_spec (orc := orc) (ho _ (by simp)) (ho _ (by simp)) v m
  have c2 := rkind_spec (orc := orc) (ho _ (by simp)) v
  have c3 := rwants_spec (orc := orc) (ho _ (by simp)) w
  have c4 := rabout_spec (orc := orc) (ho _ (by simp)) (ho _ (by simp)) w v m c s t k nm
  have c5 := rcounted_spec (orc := orc) (ho _ (by simp)) (ho _ (by simp)) w v m c s t k nm
  have c6 := rwithin_spec (orc := orc) (ho _ (by simp)) s 6 (uS v m)
  have c7 := rwithin_spec (orc := orc) (ho _ (by simp)) t 8 (uT v m)
  have c8 := rwithin_spec (orc := orc) (ho _ (by simp)) k 4 (uM v)
  have c9 := rname_spec (orc := orc) (ho _ (by simp)) nm
  have w1 := wrap_byte hs.1 hs.2
  have w2 := wrap_byte ht.1 ht.2
  have w3 := wrap_byte hk.1 hk.2
  clear hs ht hk
  unfold part at c4 c5 ⊢
  unfold chkR bad1 bad5 bad6R
  generalize withinB s (uS v m) 1 6 = S at *
  generalize withinB t (uT v m) 1 8 = U at *
  generalize withinB k (uM v) 1 4 = M at *
  generalize aboutR w v m = A at *
  generalize countedR v c = C at *
  generalize isName nm = Q at *
  generalize kindI v = K at *
  generalize wantsI w = W at *
  generalize uN v = bN at *
  dsimp only [List.length, List.replicate, List.append, List.cons_append, List.nil_append, Nat.reduceAdd, Nat.reduceSub]
  repeat' first | (simp only [opsB, ctlB, Nat.reduceEqDiff, Nat.reduceBEq, Nat.reduceBNe, Int.reduceBEq, Int.reduceBNe, Int.reduceLT, Int.reduceLE, Int.reduceEq, CO.quiet, CO.reads, AV.one, AV.cells, CA.ev, abin, aint, aun, isShift, readVar, readCell, readCells, writeCells, fillA, reduceIte, Nat.reduceAdd, Nat.reduceSub, Nat.reduceLT, Nat.reduceLeDiff, resAll, resOne, AV.under, AV.unders, cut, put, DoneK, Kept, KeptOne, closeOp, aun, astr, op_toInt, toIntV_int, c1, c2, c3, c4, c5, c6, c7, c8, c9, w1, w2, w3, *]) | (refine GuardK_split (fun hb => ?_) (fun hb => ?_)) | (refine CondK_split (fun hb => ?_) (fun hb => ?_)) | (refine CodeK_regionD _ ?_) | (refine DGuardK_split (fun hb => ?_) (fun hb => ?_))
  all_goals (clear c1 c2 c3 c4 c5 c6 c7 c8 c9 w1 w2 w3; simp_all)

end Go.Proofs.Ef
