/- Which cards may be: the code's own check, in plain words. -/
import Derived.Test.YtjmhjipacmlojaaGreatDoorFz06
import Derived.Test.YtjmhjipacmlojaaGreatDoorZcCdMem
namespace Go.Proofs.Cards
open Go Go.Fs
set_option linter.unusedSimpArgs false
set_option linter.unusedVariables false
variable {orc : Orc}
def cf9 : CF := ⟨43, [(.tmp 2)], (.seq (.region [⟨(some 1), (.box (.t 0)), none⟩, ⟨(some 2), (.mv (.c (.int .i64 0))), none⟩]) (.seq (.seq (.region [⟨(some 7), (.load (some 9) (.t 1)), none⟩, ⟨(some 8), (.call (.f 29) [(.t 7)]), none⟩, ⟨(some 3), (.mv (.t 8)), none⟩]) (.seq (.region [⟨(some 9), (.mv (.t 3)), none⟩, ⟨(some 10), (.bin .neq .other (.t 9) (.c (.int .i64 0))), none⟩]) (.cond (.t 10) (.seq (.region [⟨(some 11), (.mv (.t 3)), none⟩, ⟨(some 2), (.mv (.t 11)), none⟩]) .ret) .skip))) (.seq (.seq (.region [⟨(some 12), (.faddr 8 (.t 1)), none⟩, ⟨(some 13), (.load none (.t 12)), none⟩, ⟨(some 14), (.lenV (.t 13)), none⟩, ⟨(some 15), (.mv (.c (.int .i64 0))), none⟩]) (.block 0 (.loop (.seq (.region [⟨(some 16), (.bin .lss .other (.t 15) (.t 14)), none⟩]) (.seq (.cond (.t 16) .skip (.exit 0)) (.seq (.block 1 (.seq (.region [⟨(some 17), (.iaddrS 8 (.t 13) (.t 15)), none⟩, ⟨(some 18), (.load (some 8) (.t 17)), none⟩, ⟨(some 5), (.alloc [(.int .u8 0), (.int .u8 0), (.int .u8 0), (.int .i64 0), (.int .u8 0), (.int .u8 0), (.int .u8 0), (.str [])]), none⟩, ⟨none, (.store 8 (.t 5) (.t 18)), none⟩]) (.seq (.seq (.region [⟨(some 19), (.load (some 8) (.t 5)), none⟩, ⟨(some 20), (.call (.f 24) [(.t 19)]), none⟩, ⟨(some 6), (.mv (.t 20)), none⟩]) (.seq (.region [⟨(some 21), (.mv (.t 6)), none⟩, ⟨(some 22), (.bin .neq .other (.t 21) (.c (.int .i64 0))), none⟩]) (.cond (.t 22) (.seq (.region [⟨(some 23), (.mv (.t 6)), none⟩, ⟨(some 2), (.mv (.t 23)), none⟩]) .ret) .skip))) (.seq (.region [⟨(some 24), (.faddr 2 (.t 1)), none⟩, ⟨(some 25), (.load none (.t 24)), none⟩, ⟨(some 26), (.bin .eql .other (.t 25) (.c (.int .u8 2))), none⟩, ⟨(some 27), (.mv (.t 26)), none⟩, ⟨(some 28), (.faddr 0 (.t 5)), (some (27, true))⟩, ⟨(some 29), (.load none (.t 28)), (some (27, true))⟩, ⟨(some 30), (.bin .neq .other (.t 29) (.c (.int .u8 1))), (some (27, true))⟩, ⟨(some 31), (.pick (.t 27) (.t 30) (.c (.bool false))), none⟩, ⟨(some 32), (.mv (.t 31)), none⟩, ⟨(some 33), (.faddr 2 (.t 1)), (some (32, false))⟩, ⟨(some 34), (.load none (.t 33)), (some (32, false))⟩, ⟨(some 35), (.bin .eql .other (.t 34) (.c (.int .u8 3))), (some (32, false))⟩, ⟨(some 36), (.mv (.t 35)), (some (32, false))⟩, ⟨(some 37), (.faddr 0 (.t 5)), (some (36, true))⟩, ⟨(some 38), (.load none (.t 37)), (some (36, true))⟩, ⟨(some 39), (.bin .eql .other (.t 38) (.c (.int .u8 4))), (some (36, true))⟩, ⟨(some 40), (.pick (.t 36) (.t 39) (.c (.bool false))), (some (32, false))⟩, ⟨(some 41), (.pick (.t 32) (.c (.bool true)) (.t 40)), none⟩]) (.cond (.t 41) (.seq (.region [⟨(some 2), (.mv (.c (.int .i64 8))), none⟩]) .ret) .skip))))) (.region [⟨(some 42), (.bin .add .other (.t 15) (.c (.int .i64 1))), none⟩, ⟨(some 15), (.mv (.t 42)), none⟩]))))))) (.seq (.region [⟨(some 2), (.mv (.c (.int .i64 0))), none⟩]) .ret))))⟩
def cf29 : CF := ⟨80, [(.tmp 2)], (.seq (.region [⟨(some 1), (.box (.t 0)), none⟩, ⟨(some 2), (.mv (.c (.int .i64 0))), none⟩]) (.seq (.region [⟨(some 4), (.faddr 2 (.t 1)), none⟩, ⟨(some 5), (.load none (.t 4)), none⟩, ⟨(some 6), (.bin .eql .other (.t 5) (.c (.int .u8 1))), none⟩, ⟨(some 3), (.mv (.t 6)), none⟩]) (.seq (.block 0 (.seq (.region [⟨(some 8), (.faddr 0 (.t 1)), none⟩, ⟨(some 9), (.load none (.t 8)), none⟩, ⟨(some 10), (.call (.f 74) [(.t 9)]), none⟩, ⟨(some 11), (.un .not (.t 10)), none⟩, ⟨(some 7), (.mv (.t 11)), none⟩]) (.cond (.t 7) (.seq (.region [⟨(some 2), (.mv (.c (.int .i64 4))), none⟩]) .ret) (.seq (.region [⟨(some 13), (.faddr 1 (.t 1)), none⟩, ⟨(some 14), (.load none (.t 13)), none⟩, ⟨(some 15), (.call (.f 30) [(.t 14)]), none⟩, ⟨(some 16), (.bin .eql .other (.t 15) (.c (.str []))), none⟩, ⟨(some 17), (.mv (.t 16)), none⟩, ⟨(some 18), (.faddr 2 (.t 1)), (some (17, false))⟩, ⟨(some 19), (.load none (.t 18)), (some (17, false))⟩, ⟨(some 20), (.call (.f 31) [(.t 19)]), (some (17, false))⟩, ⟨(some 21), (.bin .eql .other (.t 20) (.c (.str []))), (some (17, false))⟩, ⟨(some 22), (.pick (.t 17) (.c (.bool true)) (.t 21)), none⟩, ⟨(some 12), (.mv (.t 22)), none⟩]) (.cond (.t 12) (.seq (.region [⟨(some 2), (.mv (.c (.int .i64 8))), none⟩]) .ret) (.seq (.region [⟨(some 24), (.faddr 3 (.t 1)), none⟩, ⟨(some 25), (.load none (.t 24)), none⟩, ⟨(some 26), (.call (.f 75) [(.t 25), (.c (.int .i64 10))]), none⟩, ⟨(some 27), (.un .not (.t 26)), none⟩, ⟨(some 28), (.mv (.t 27)), none⟩, ⟨(some 29), (.faddr 4 (.t 1)), (some (28, false))⟩, ⟨(some 30), (.load none (.t 29)), (some (28, false))⟩, ⟨(some 31), (.call (.f 75) [(.t 30), (.c (.int .i64 99))]), (some (28, false))⟩, ⟨(some 32), (.un .not (.t 31)), (some (28, false))⟩, ⟨(some 33), (.pick (.t 28) (.c (.bool true)) (.t 32)), none⟩, ⟨(some 34), (.mv (.t 33)), none⟩, ⟨(some 35), (.faddr 5 (.t 1)), (some (34, false))⟩, ⟨(some 36), (.load none (.t 35)), (some (34, false))⟩, ⟨(some 37), (.call (.f 75) [(.t 36), (.c (.int .i64 99))]), (some (34, false))⟩, ⟨(some 38), (.un .not (.t 37)), (some (34, false))⟩, ⟨(some 39), (.pick (.t 34) (.c (.bool true)) (.t 38)), none⟩, ⟨(some 23), (.mv (.t 39)), none⟩]) (.cond (.t 23) (.seq (.region [⟨(some 2), (.mv (.c (.int .i64 2))), none⟩]) .ret) (.seq (.region [⟨(some 41), (.mv (.t 3)), none⟩, ⟨(some 42), (.mv (.t 41)), none⟩, ⟨(some 43), (.faddr 5 (.t 1)), (some (42, true))⟩, ⟨(some 44), (.load none (.t 43)), (some (42, true))⟩, ⟨(some 45), (.bin .eql .other (.t 44) (.c (.int .i64 0))), (some (42, true))⟩, ⟨(some 46), (.pick (.t 42) (.t 45) (.c (.bool false))), none⟩, ⟨(some 47), (.mv (.t 46)), none⟩, ⟨(some 48), (.mv (.t 3)), (some (47, false))⟩, ⟨(some 49), (.un .not (.t 48)), (some (47, false))⟩, ⟨(some 50), (.mv (.t 49)), (some (47, false))⟩, ⟨(some 51), (.faddr 4 (.t 1)), (some (50, true))⟩, ⟨(some 52), (.load none (.t 51)), (some (50, true))⟩, ⟨(some 53), (.bin .neq .other (.t 52) (.c (.int .i64 0))), (some (50, true))⟩, ⟨(some 54), (.mv (.t 53)), (some (50, true))⟩, ⟨(some 55), (.faddr 5 (.t 1)), (some (54, false))⟩, ⟨(some 56), (.load none (.t 55)), (some (54, false))⟩, ⟨(some 57), (.bin .neq .other (.t 56) (.c (.int .i64 0))), (some (54, false))⟩, ⟨(some 58), (.pick (.t 54) (.c (.bool true)) (.t 57)), (some (50, true))⟩, ⟨(some 59), (.pick (.t 50) (.t 58) (.c (.bool false))), (some (47, false))⟩, ⟨(some 60), (.pick (.t 47) (.c (.bool true)) (.t 59)), none⟩, ⟨(some 40), (.mv (.t 60)), none⟩]) (.cond (.t 40) (.seq (.region [⟨(some 2), (.mv (.c (.int .i64 8))), none⟩]) .ret) (.seq (.region [⟨(some 62), (.faddr 6 (.t 1)), none⟩, ⟨(some 63), (.load none (.t 62)), none⟩, ⟨(some 64), (.call (.f 76) [(.t 63)]), none⟩, ⟨(some 65), (.un .not (.t 64)), none⟩, ⟨(some 66), (.mv (.t 65)), none⟩, ⟨(some 67), (.faddr 2 (.t 1)), (some (66, false))⟩, ⟨(some 68), (.load none (.t 67)), (some (66, false))⟩, ⟨(some 69), (.bin .eql .other (.t 68) (.c (.int .u8 2))), (some (66, false))⟩, ⟨(some 70), (.mv (.t 69)), (some (66, false))⟩, ⟨(some 71), (.faddr 7 (.t 1)), (some (70, true))⟩, ⟨(some 72), (.load none (.t 71)), (some (70, true))⟩, ⟨(some 73), (.pick (.t 70) (.t 72) (.c (.bool false))), (some (66, false))⟩, ⟨(some 74), (.pick (.t 66) (.c (.bool true)) (.t 73)), none⟩, ⟨(some 61), (.mv (.t 74)), none⟩]) (.cond (.t 61) (.seq (.region [⟨(some 2), (.mv (.c (.int .i64 8))), none⟩]) .ret) (.seq (.region [⟨(some 76), (.faddr 8 (.t 1)), none⟩, ⟨(some 77), (.load none (.t 76)), none⟩, ⟨(some 78), (.lenV (.t 77)), none⟩, ⟨(some 79), (.bin .gtr .other (.t 78) (.c (.int .i64 4))), none⟩, ⟨(some 75), (.mv (.t 79)), none⟩]) (.cond (.t 75) (.seq (.region [⟨(some 2), (.mv (.c (.int .i64 3))), none⟩]) .ret) .skip))))))))))))) (.seq (.region [⟨(some 2), (.mv (.c (.int .i64 0))), none⟩]) .ret))))⟩
def cf74 : CF := ⟨21, [(.tmp 2)], (.seq (.region [⟨(some 2), (.mv (.c (.bool false))), none⟩]) (.seq (.region [⟨(some 3), (.mv (.t 0)), none⟩, ⟨(some 4), (.lenS (.t 3)), none⟩, ⟨(some 5), (.bin .gtr .other (.t 4) (.c (.int .i64 0))), none⟩, ⟨(some 6), (.mv (.t 5)), none⟩, ⟨(some 7), (.mv (.t 0)), (some (6, true))⟩, ⟨(some 8), (.lenS (.t 7)), (some (6, true))⟩, ⟨(some 9), (.bin .leq .other (.t 8) (.c (.int .i64 20))), (some (6, true))⟩, ⟨(some 10), (.pick (.t 6) (.t 9) (.c (.bool false))), none⟩, ⟨(some 11), (.mv (.t 10)), none⟩, ⟨(some 12), (.mv (.t 0)), (some (11, true))⟩, ⟨(some 13), (.idxS (.t 12) (.c (.int .i64 0))), (some (11, true))⟩, ⟨(some 14), (.bin .neq .other (.t 13) (.c (.int .u8 45))), (some (11, true))⟩, ⟨(some 15), (.pick (.t 11) (.t 14) (.c (.bool false))), none⟩, ⟨(some 16), (.mv (.t 15)), none⟩, ⟨(some 17), (.mv (.t 0)), (some (16, true))⟩, ⟨(some 18), (.call (.f 109) [(.t 17), (.c (.str [97, 98, 99, 100, 101, 102, 103, 104, 105, 106, 107, 108, 109, 110, 111, 112, 113, 114, 115, 116, 117, 118, 119, 120, 121, 122, 45]))]), (some (16, true))⟩, ⟨(some 19), (.bin .eql .other (.t 18) (.c (.str []))), (some (16, true))⟩, ⟨(some 20), (.pick (.t 16) (.t 19) (.c (.bool false))), none⟩, ⟨(some 2), (.mv (.t 20)), none⟩]) .ret))⟩
def cf75 : CF := ⟨12, [(.tmp 4)], (.seq (.region [⟨(some 4), (.mv (.c (.bool false))), none⟩]) (.seq (.region [⟨(some 5), (.mv (.t 0)), none⟩, ⟨(some 6), (.bin .geq .other (.t 5) (.c (.int .i64 0))), none⟩, ⟨(some 7), (.mv (.t 6)), none⟩, ⟨(some 8), (.mv (.t 0)), (some (7, true))⟩, ⟨(some 9), (.mv (.t 1)), (some (7, true))⟩, ⟨(some 10), (.bin .leq .other (.t 8) (.t 9)), (some (7, true))⟩, ⟨(some 11), (.pick (.t 7) (.t 10) (.c (.bool false))), none⟩, ⟨(some 4), (.mv (.t 11)), none⟩]) .ret))⟩
def cf30 : CF := ⟨16, [(.tmp 2)], (.seq (.region [⟨(some 2), (.mv (.c (.str []))), none⟩]) (.seq (.seq (.region [⟨(some 3), (.mv (.t 0)), none⟩]) (.block 0 (.seq (.region [⟨(some 5), (.bin .eql .other (.t 3) (.c (.int .u8 1))), none⟩, ⟨(some 4), (.mv (.t 5)), none⟩]) (.cond (.t 4) (.seq (.region [⟨(some 2), (.mv (.c (.str [97, 105, 114]))), none⟩]) .ret) (.seq (.region [⟨(some 7), (.bin .eql .other (.t 3) (.c (.int .u8 2))), none⟩, ⟨(some 6), (.mv (.t 7)), none⟩]) (.cond (.t 6) (.seq (.region [⟨(some 2), (.mv (.c (.str [101, 97, 114, 116, 104]))), none⟩]) .ret) (.seq (.region [⟨(some 9), (.bin .eql .other (.t 3) (.c (.int .u8 3))), none⟩, ⟨(some 8), (.mv (.t 9)), none⟩]) (.cond (.t 8) (.seq (.region [⟨(some 2), (.mv (.c (.str [102, 105, 114, 101]))), none⟩]) .ret) (.seq (.region [⟨(some 11), (.bin .eql .other (.t 3) (.c (.int .u8 4))), none⟩, ⟨(some 10), (.mv (.t 11)), none⟩]) (.cond (.t 10) (.seq (.region [⟨(some 2), (.mv (.c (.str [119, 97, 116, 101, 114]))), none⟩]) .ret) (.seq (.region [⟨(some 13), (.bin .eql .other (.t 3) (.c (.int .u8 5))), none⟩, ⟨(some 12), (.mv (.t 13)), none⟩]) (.cond (.t 12) (.seq (.region [⟨(some 2), (.mv (.c (.str [118, 111, 105, 100]))), none⟩]) .ret) (.seq (.region [⟨(some 15), (.bin .eql .other (.t 3) (.c (.int .u8 6))), none⟩, ⟨(some 14), (.mv (.t 15)), none⟩]) (.cond (.t 14) (.seq (.region [⟨(some 2), (.mv (.c (.str [103, 111, 108, 100]))), none⟩]) .ret) .skip)))))))))))))) (.seq (.region [⟨(some 2), (.mv (.c (.str []))), none⟩]) .ret)))⟩
def cf31 : CF := ⟨10, [(.tmp 2)], (.seq (.region [⟨(some 2), (.mv (.c (.str []))), none⟩]) (.seq (.seq (.region [⟨(some 3), (.mv (.t 0)), none⟩]) (.block 0 (.seq (.region [⟨(some 5), (.bin .eql .other (.t 3) (.c (.int .u8 1))), none⟩, ⟨(some 4), (.mv (.t 5)), none⟩]) (.cond (.t 4) (.seq (.region [⟨(some 2), (.mv (.c (.str [117, 110, 105, 116]))), none⟩]) .ret) (.seq (.region [⟨(some 7), (.bin .eql .other (.t 3) (.c (.int .u8 2))), none⟩, ⟨(some 6), (.mv (.t 7)), none⟩]) (.cond (.t 6) (.seq (.region [⟨(some 2), (.mv (.c (.str [115, 112, 101, 108, 108]))), none⟩]) .ret) (.seq (.region [⟨(some 9), (.bin .eql .other (.t 3) (.c (.int .u8 3))), none⟩, ⟨(some 8), (.mv (.t 9)), none⟩]) (.cond (.t 8) (.seq (.region [⟨(some 2), (.mv (.c (.str [114, 101, 108, 105, 99]))), none⟩]) .ret) .skip)))))))) (.seq (.region [⟨(some 2), (.mv (.c (.str []))), none⟩]) .ret)))⟩
def cf76 : CF := ⟨6, [(.tmp 2)], (.seq (.region [⟨(some 2), (.mv (.c (.bool false))), none⟩]) (.seq (.region [⟨(some 3), (.mv (.t 0)), none⟩, ⟨(some 4), (.bin .shr .other (.t 3) (.c (.int .u64 8))), none⟩, ⟨(some 5), (.bin .eql .other (.t 4) (.c (.int .u16 0))), none⟩, ⟨(some 2), (.mv (.t 5)), none⟩]) .ret))⟩
theorem tbl9 : tbl Tryz.prog 9 = some cf9 := by kernel_rfl
theorem tbl29 : tbl Tryz.prog 29 = some cf29 := by kernel_rfl
theorem tbl74 : tbl Tryz.prog 74 = some cf74 := by kernel_rfl
theorem tbl75 : tbl Tryz.prog 75 = some cf75 := by kernel_rfl
theorem tbl30 : tbl Tryz.prog 30 = some cf30 := by kernel_rfl
theorem tbl31 : tbl Tryz.prog 31 = some cf31 := by kernel_rfl
theorem tbl76 : tbl Tryz.prog 76 = some cf76 := by kernel_rfl

/-! ### Names, words, bounds -/
def snm (s : Int) : List UInt8 := if 1 ≤ s ∧ s ≤ 6 then Ef.sN s else []
def wrd (k : Int) : List UInt8 := if k = 1 then [117, 110, 105, 116] else if k = 2 then [115, 112, 101, 108, 108] else if k = 3 then [114, 101, 108, 105, 99] else []
def wiB (n m : Int) : Bool := decide (0 ≤ n) && decide (n ≤ m)
def tcB (t : Int) : Bool := t.fdiv 256 == 0

set_option maxRecDepth 100000 in
set_option maxHeartbeats 4000000 in
theorem sname_spec (ho : orc 30 = none) (s : Int) (h : AH) : acall orc T 30 [.int .u8 s] h = some (.str (snm s), h) := by
  refine acall_sym ho tbl30 ?_
  dsimp only [List.length, List.replicate, List.append, List.cons_append, List.nil_append, Nat.reduceAdd, Nat.reduceSub]
  have e : ∀ k : Int, s = k → 1 ≤ k → k ≤ 6 → snm s = Ef.sN k := fun k h1 h2 h3 => by subst h1; unfold snm; rw [if_pos ⟨h2, h3⟩]
  by_cases hs : 1 ≤ s ∧ s ≤ 6
  · have : s = 1 ∨ s = 2 ∨ s = 3 ∨ s = 4 ∨ s = 5 ∨ s = 6 := by omega
    rcases this with rfl | rfl | rfl | rfl | rfl | rfl
    all_goals (rw [e _ rfl (by decide) (by decide)]; clear e hs)
    · (have fct := @op_mv; (repeat' with_reducible first | refine Red.to ?_ | refine A_any (k := ?_) | refine A_skip (k := ?_) | refine A_cond (k := ?_) | refine A_exne (k := ?_)); all_goals try clear fct)
      (simp only [DoneK, opsB, Nat.reduceEqDiff, Nat.reduceBEq, Nat.reduceBNe, Int.reduceBEq, Int.reduceBNe, Int.reduceLT, Int.reduceLE, Int.reduceEq, AV.one, AV.cells, CA.ev, abin, aint, aun, isShift, readVar, readCell, readCells, writeCells, fillA, reduceIte, Nat.reduceAdd, Nat.reduceSub, Nat.reduceLT, Nat.reduceLeDiff, resAll, resOne, AV.under, AV.unders, cut])
      rfl
    · (have fct := @op_mv; (repeat' with_reducible first | refine Red.to ?_ | refine A_any (k := ?_) | refine A_skip (k := ?_) | refine A_cond (k := ?_) | refine A_exne (k := ?_)); all_goals try clear fct)
      (simp only [DoneK, opsB, Nat.reduceEqDiff, Nat.reduceBEq, Nat.reduceBNe, Int.reduceBEq, Int.reduceBNe, Int.reduceLT, Int.reduceLE, Int.reduceEq, AV.one, AV.cells, CA.ev, abin, aint, aun, isShift, readVar, readCell, readCells, writeCells, fillA, reduceIte, Nat.reduceAdd, Nat.reduceSub, Nat.reduceLT, Nat.reduceLeDiff, resAll, resOne, AV.under, AV.unders, cut])
      rfl
    · (have fct := @op_mv; (repeat' with_reducible first | refine Red.to ?_ | refine A_any (k := ?_) | refine A_skip (k := ?_) | refine A_cond (k := ?_) | refine A_exne (k := ?_)); all_goals try clear fct)
      (simp only [DoneK, opsB, Nat.reduceEqDiff, Nat.reduceBEq, Nat.reduceBNe, Int.reduceBEq, Int.reduceBNe, Int.reduceLT, Int.reduceLE, Int.reduceEq, AV.one, AV.cells, CA.ev, abin, aint, aun, isShift, readVar, readCell, readCells, writeCells, fillA, reduceIte, Nat.reduceAdd, Nat.reduceSub, Nat.reduceLT, Nat.reduceLeDiff, resAll, resOne, AV.under, AV.unders, cut])
      rfl
    · (have fct := @op_mv; (repeat' with_reducible first | refine Red.to ?_ | refine A_any (k := ?_) | refine A_skip (k := ?_) | refine A_cond (k := ?_) | refine A_exne (k := ?_)); all_goals try clear fct)
      (simp only [DoneK, opsB, Nat.reduceEqDiff, Nat.reduceBEq, Nat.reduceBNe, Int.reduceBEq, Int.reduceBNe, Int.reduceLT, Int.reduceLE, Int.reduceEq, AV.one, AV.cells, CA.ev, abin, aint, aun, isShift, readVar, readCell, readCells, writeCells, fillA, reduceIte, Nat.reduceAdd, Nat.reduceSub, Nat.reduceLT, Nat.reduceLeDiff, resAll, resOne, AV.under, AV.unders, cut])
      rfl
    · (have fct := @op_mv; (repeat' with_reducible first | refine Red.to ?_ | refine A_any (k := ?_) | refine A_skip (k := ?_) | refine A_cond (k := ?_) | refine A_exne (k := ?_)); all_goals try clear fct)
      (simp only [DoneK, opsB, Nat.reduceEqDiff, Nat.reduceBEq, Nat.reduceBNe, Int.reduceBEq, Int.reduceBNe, Int.reduceLT, Int.reduceLE, Int.reduceEq, AV.one, AV.cells, CA.ev, abin, aint, aun, isShift, readVar, readCell, readCells, writeCells, fillA, reduceIte, Nat.reduceAdd, Nat.reduceSub, Nat.reduceLT, Nat.reduceLeDiff, resAll, resOne, AV.under, AV.unders, cut])
      rfl
    · (have fct := @op_mv; (repeat' with_reducible first | refine Red.to ?_ | refine A_any (k := ?_) | refine A_skip (k := ?_) | refine A_cond (k := ?_) | refine A_exne (k := ?_)); all_goals try clear fct)
      (simp only [DoneK, opsB, Nat.reduceEqDiff, Nat.reduceBEq, Nat.reduceBNe, Int.reduceBEq, Int.reduceBNe, Int.reduceLT, Int.reduceLE, Int.reduceEq, AV.one, AV.cells, CA.ev, abin, aint, aun, isShift, readVar, readCell, readCells, writeCells, fillA, reduceIte, Nat.reduceAdd, Nat.reduceSub, Nat.reduceLT, Nat.reduceLeDiff, resAll, resOne, AV.under, AV.unders, cut])
      rfl
  · have e0 : snm s = [] := by unfold snm; rw [if_neg hs]
    rw [e0]
    have n1 : (s == 1) = false := by rw [beq_eq_false_iff_ne]; omega
    have n2 : (s == 2) = false := by rw [beq_eq_false_iff_ne]; omega
    have n3 : (s == 3) = false := by rw [beq_eq_false_iff_ne]; omega
    have n4 : (s == 4) = false := by rw [beq_eq_false_iff_ne]; omega
    have n5 : (s == 5) = false := by rw [beq_eq_false_iff_ne]; omega
    have n6 : (s == 6) = false := by rw [beq_eq_false_iff_ne]; omega
    (have fct := And.intro @n1 (And.intro @n2 (And.intro @n3 (And.intro @n4 (And.intro @n5 @n6)))); (repeat' with_reducible first | refine Red.to ?_ | refine A_any (k := ?_) | refine A_skip (k := ?_) | refine A_cond (k := ?_) | refine A_exne (k := ?_)); all_goals try clear fct)
    (simp only [DoneK, opsB, Nat.reduceEqDiff, Nat.reduceBEq, Nat.reduceBNe, Int.reduceBEq, Int.reduceBNe, Int.reduceLT, Int.reduceLE, Int.reduceEq, AV.one, AV.cells, CA.ev, abin, aint, aun, isShift, readVar, readCell, readCells, writeCells, fillA, reduceIte, Nat.reduceAdd, Nat.reduceSub, Nat.reduceLT, Nat.reduceLeDiff, resAll, resOne, AV.under, AV.unders, cut])

set_option maxRecDepth 100000 in
set_option maxHeartbeats 4000000 in
theorem word_spec (ho : orc 31 = none) (k : Int) (h : AH) : acall orc T 31 [.int .u8 k] h = some (.str (wrd k), h) := by
  refine acall_sym ho tbl31 ?_
  dsimp only [List.length, List.replicate, List.append, List.cons_append, List.nil_append, Nat.reduceAdd, Nat.reduceSub]
  by_cases hs : 1 ≤ k ∧ k ≤ 3
  · have : k = 1 ∨ k = 2 ∨ k = 3 := by omega
    rcases this with rfl | rfl | rfl
    · (have fct := @op_mv; (repeat' with_reducible first | refine Red.to ?_ | refine A_any (k := ?_) | refine A_skip (k := ?_) | refine A_cond (k := ?_) | refine A_exne (k := ?_)); all_goals try clear fct)
      (simp only [DoneK, opsB, Nat.reduceEqDiff, Nat.reduceBEq, Nat.reduceBNe, Int.reduceBEq, Int.reduceBNe, Int.reduceLT, Int.reduceLE, Int.reduceEq, AV.one, AV.cells, CA.ev, abin, aint, aun, isShift, readVar, readCell, readCells, writeCells, fillA, reduceIte, Nat.reduceAdd, Nat.reduceSub, Nat.reduceLT, Nat.reduceLeDiff, resAll, resOne, AV.under, AV.unders, cut])
      rfl
    · (have fct := @op_mv; (repeat' with_reducible first | refine Red.to ?_ | refine A_any (k := ?_) | refine A_skip (k := ?_) | refine A_cond (k := ?_) | refine A_exne (k := ?_)); all_goals try clear fct)
      (simp only [DoneK, opsB, Nat.reduceEqDiff, Nat.reduceBEq, Nat.reduceBNe, Int.reduceBEq, Int.reduceBNe, Int.reduceLT, Int.reduceLE, Int.reduceEq, AV.one, AV.cells, CA.ev, abin, aint, aun, isShift, readVar, readCell, readCells, writeCells, fillA, reduceIte, Nat.reduceAdd, Nat.reduceSub, Nat.reduceLT, Nat.reduceLeDiff, resAll, resOne, AV.under, AV.unders, cut])
      rfl
    · (have fct := @op_mv; (repeat' with_reducible first | refine Red.to ?_ | refine A_any (k := ?_) | refine A_skip (k := ?_) | refine A_cond (k := ?_) | refine A_exne (k := ?_)); all_goals try clear fct)
      (simp only [DoneK, opsB, Nat.reduceEqDiff, Nat.reduceBEq, Nat.reduceBNe, Int.reduceBEq, Int.reduceBNe, Int.reduceLT, Int.reduceLE, Int.reduceEq, AV.one, AV.cells, CA.ev, abin, aint, aun, isShift, readVar, readCell, readCells, writeCells, fillA, reduceIte, Nat.reduceAdd, Nat.reduceSub, Nat.reduceLT, Nat.reduceLeDiff, resAll, resOne, AV.under, AV.unders, cut])
      rfl
  · have n1 : (k == 1) = false := by rw [beq_eq_false_iff_ne]; omega
    have n2 : (k == 2) = false := by rw [beq_eq_false_iff_ne]; omega
    have n3 : (k == 3) = false := by rw [beq_eq_false_iff_ne]; omega
    have e0 : wrd k = [] := by unfold wrd; rw [if_neg (by omega), if_neg (by omega), if_neg (by omega)]
    rw [e0]
    (have fct := And.intro @n1 (And.intro @n2 @n3); (repeat' with_reducible first | refine Red.to ?_ | refine A_any (k := ?_) | refine A_skip (k := ?_) | refine A_cond (k := ?_) | refine A_exne (k := ?_)); all_goals try clear fct)
    (simp only [DoneK, opsB, Nat.reduceEqDiff, Nat.reduceBEq, Nat.reduceBNe, Int.reduceBEq, Int.reduceBNe, Int.reduceLT, Int.reduceLE, Int.reduceEq, AV.one, AV.cells, CA.ev, abin, aint, aun, isShift, readVar, readCell, readCells, writeCells, fillA, reduceIte, Nat.reduceAdd, Nat.reduceSub, Nat.reduceLT, Nat.reduceLeDiff, resAll, resOne, AV.under, AV.unders, cut])

set_option maxRecDepth 100000 in
theorem cwithin_spec (ho : orc 75 = none) (n m : Int) (h : AH) : acall orc T 75 [.int .i64 n, .int .i64 m] h = some (.bool (wiB n m), h) := by
  refine acall_sym ho tbl75 ?_
  unfold wiB
  dsimp only [List.length, List.replicate, List.append, List.cons_append, List.nil_append, Nat.reduceAdd, Nat.reduceSub]
  cases h1 : decide (0 ≤ n) with
  | true =>
    (have fct := @h1; (repeat' with_reducible first | refine Red.to ?_ | refine A_any (k := ?_) | refine A_skip (k := ?_) | refine A_cond (k := ?_) | refine A_exne (k := ?_)); all_goals try clear fct)
    (simp only [DoneK, opsB, Nat.reduceEqDiff, Nat.reduceBEq, Nat.reduceBNe, Int.reduceBEq, Int.reduceBNe, Int.reduceLT, Int.reduceLE, Int.reduceEq, AV.one, AV.cells, CA.ev, abin, aint, aun, isShift, readVar, readCell, readCells, writeCells, fillA, reduceIte, Nat.reduceAdd, Nat.reduceSub, Nat.reduceLT, Nat.reduceLeDiff, resAll, resOne, AV.under, AV.unders, cut, Bool.true_and])
  | false =>
    (have fct := @h1; (repeat' with_reducible first | refine Red.to ?_ | refine A_any (k := ?_) | refine A_skip (k := ?_) | refine A_cond (k := ?_) | refine A_exne (k := ?_)); all_goals try clear fct)
    (simp only [DoneK, opsB, Nat.reduceEqDiff, Nat.reduceBEq, Nat.reduceBNe, Int.reduceBEq, Int.reduceBNe, Int.reduceLT, Int.reduceLE, Int.reduceEq, AV.one, AV.cells, CA.ev, abin, aint, aun, isShift, readVar, readCell, readCells, writeCells, fillA, reduceIte, Nat.reduceAdd, Nat.reduceSub, Nat.reduceLT, Nat.reduceLeDiff, resAll, resOne, AV.under, AV.unders, cut, Bool.false_and])

set_option maxRecDepth 100000 in
theorem tcheck_spec (ho : orc 76 = none) (t : Int) (h : AH) : acall orc T 76 [.int .u16 t] h = some (.bool (tcB t), h) := by
  refine acall_sym ho tbl76 ?_
  have e : ashift .shr .u16 t 8 = some (.int .u16 (t.fdiv 256)) := by simp [ashift, IntKind.bits]
  dsimp only [List.length, List.replicate, List.append, List.cons_append, List.nil_append, Nat.reduceAdd, Nat.reduceSub]
  (have fct := @e; (repeat' with_reducible first | refine Red.to ?_ | refine A_any (k := ?_) | refine A_skip (k := ?_) | refine A_cond (k := ?_) | refine A_exne (k := ?_)); all_goals try clear fct)
  (simp only [DoneK, opsB, Nat.reduceEqDiff, Nat.reduceBEq, Nat.reduceBNe, Int.reduceBEq, Int.reduceBNe, Int.reduceLT, Int.reduceLE, Int.reduceEq, AV.one, AV.cells, CA.ev, abin, aint, aun, isShift, readVar, readCell, readCells, writeCells, fillA, reduceIte, Nat.reduceAdd, Nat.reduceSub, Nat.reduceLT, Nat.reduceLeDiff, resAll, resOne, AV.under, AV.unders, cut, tcB])

set_option maxRecDepth 100000 in
set_option maxHeartbeats 8000000 in
theorem named_spec (ho : orc 74 = none) (ht : Ef.Trims orc) (s : List UInt8) (h : AH) : acall orc T 74 [.str s] h = some (.bool (Ef.isName s), h) := by
  refine acall_sym ho tbl74 ?_
  cases s with
  | nil =>
    dsimp only [List.length, List.replicate, List.append, List.cons_append, List.nil_append, Nat.reduceAdd, Nat.reduceSub]
    have l1 : decide ((0 : Int) < ((0 : Nat) : Int)) = false := by decide
    (have fct := @l1; (repeat' with_reducible first | refine Red.to ?_ | refine A_any (k := ?_) | refine A_skip (k := ?_) | refine A_cond (k := ?_) | refine A_exne (k := ?_)); all_goals try clear fct)
    (simp only [DoneK, opsB, Nat.reduceEqDiff, Nat.reduceBEq, Nat.reduceBNe, Int.reduceBEq, Int.reduceBNe, Int.reduceLT, Int.reduceLE, Int.reduceEq, AV.one, AV.cells, CA.ev, abin, aint, aun, isShift, readVar, readCell, readCells, writeCells, fillA, reduceIte, Nat.reduceAdd, Nat.reduceSub, Nat.reduceLT, Nat.reduceLeDiff, resAll, resOne, AV.under, AV.unders, cut])
    rfl
  | cons b s =>
    have l1 : decide ((0 : Int) < ((s.length + 1 : Nat) : Int)) = true := by rw [decide_eq_true_eq]; omega
    by_cases hl : s.length + 1 ≤ 20
    · have l2 : decide (((s.length + 1 : Nat) : Int) ≤ 20) = true := by rw [decide_eq_true_eq]; omega
      have c1 := ht (b :: s) (h := h.withLow h.n) (by simpa using hl)
      unfold Ef.cutset at c1
      cases hb0 : ((b.toNat : Int) != 45) with
      | false =>
        dsimp only [List.length, List.replicate, List.append, List.cons_append, List.nil_append, Nat.reduceAdd, Nat.reduceSub]
        (have fct := And.intro @l1 (And.intro @l2 (And.intro @Ef.op_idxS (And.intro @Ef.idxSV_zero @hb0))); (repeat' with_reducible first | refine Red.to ?_ | refine A_any (k := ?_) | refine A_skip (k := ?_) | refine A_cond (k := ?_) | refine A_exne (k := ?_)); all_goals try clear fct)
        (simp only [DoneK, opsB, Nat.reduceEqDiff, Nat.reduceBEq, Nat.reduceBNe, Int.reduceBEq, Int.reduceBNe, Int.reduceLT, Int.reduceLE, Int.reduceEq, AV.one, AV.cells, CA.ev, abin, aint, aun, isShift, readVar, readCell, readCells, writeCells, fillA, reduceIte, Nat.reduceAdd, Nat.reduceSub, Nat.reduceLT, Nat.reduceLeDiff, resAll, resOne, AV.under, AV.unders, cut])
        simp only [Ef.isName, List.headD_cons, hb0, Bool.and_false, Bool.false_and]
      | true =>
        have hE : Ef.isName (b :: s) = decide (Lib.trimS (b :: s) Ef.cutset = []) := by
          have e1 : decide (1 ≤ (b :: s).length) = true := by simp
          have e2 : decide ((b :: s).length ≤ 20) = true := by simpa using hl
          rw [Ef.isName, e1, e2, List.headD_cons, hb0, Bool.true_and, Bool.true_and, Bool.true_and, Bool.eq_iff_iff, decide_eq_true_eq]
          exact (Ef.trimS_nil _).symm
        rw [hE]
        unfold Ef.cutset
        dsimp only [List.length, List.replicate, List.append, List.cons_append, List.nil_append, Nat.reduceAdd, Nat.reduceSub]
        (have fct := And.intro @l1 (And.intro @l2 (And.intro @Ef.op_idxS (And.intro @Ef.idxSV_zero (And.intro @hb0 (And.intro @c1 fsAstr))))); (repeat' with_reducible first | refine Red.to ?_ | refine A_any (k := ?_) | refine A_skip (k := ?_) | refine A_cond (k := ?_) | refine A_exne (k := ?_)); all_goals try clear fct)
        (simp only [DoneK, opsB, Nat.reduceEqDiff, Nat.reduceBEq, Nat.reduceBNe, Int.reduceBEq, Int.reduceBNe, Int.reduceLT, Int.reduceLE, Int.reduceEq, AV.one, AV.cells, CA.ev, abin, aint, aun, isShift, readVar, readCell, readCells, writeCells, fillA, reduceIte, Nat.reduceAdd, Nat.reduceSub, Nat.reduceLT, Nat.reduceLeDiff, resAll, resOne, AV.under, AV.unders, cut])
    · have l2 : decide (((s.length + 1 : Nat) : Int) ≤ 20) = false := by rw [decide_eq_false_iff_not]; omega
      have hE : Ef.isName (b :: s) = false := by
        have e2 : decide ((b :: s).length ≤ 20) = false := by simpa using hl
        rw [Ef.isName, e2, Bool.and_false, Bool.false_and, Bool.false_and]
      rw [hE]
      dsimp only [List.length, List.replicate, List.append, List.cons_append, List.nil_append, Nat.reduceAdd, Nat.reduceSub]
      (have fct := And.intro @l1 @l2; (repeat' with_reducible first | refine Red.to ?_ | refine A_any (k := ?_) | refine A_skip (k := ?_) | refine A_cond (k := ?_) | refine A_exne (k := ?_)); all_goals try clear fct)
      (simp only [DoneK, opsB, Nat.reduceEqDiff, Nat.reduceBEq, Nat.reduceBNe, Int.reduceBEq, Int.reduceBNe, Int.reduceLT, Int.reduceLE, Int.reduceEq, AV.one, AV.cells, CA.ev, abin, aint, aun, isShift, readVar, readCell, readCells, writeCells, fillA, reduceIte, Nat.reduceAdd, Nat.reduceSub, Nat.reduceLT, Nat.reduceLeDiff, resAll, resOne, AV.under, AV.unders, cut])

/-! ### A card but for its parts -/
def faceB (b1 b2 b3 b4 b5 b6 b7 b8 b9 b10 b11 b12 b14 b13 : Bool) : Int :=
  if b1 = false then 4 else if (b2 || b3) = true then 8 else if (!b4 || !b5 || !b6) = true then 2 else if (b7 && b8 || !b7 && (b9 || b10)) = true then 8 else if (!b11 || b12 && b14) = true then 8 else if b13 = true then 3 else 0
/-- What is wrong with a card of n parts but for them. -/
def faceE (c : Crd) (n : Nat) : Int := faceB (Ef.isName c.name) (decide (snm c.suit = [])) (decide (wrd c.kind = [])) (wiB c.cost 10) (wiB c.power 99) (wiB c.health 99) (c.kind == 1) (c.health == 0) (c.power != 0) (c.health != 0) (tcB c.traits) (c.kind == 2) c.token (decide (4 < (n : Int)))

set_option maxRecDepth 100000 in
set_option maxHeartbeats 16000000 in
theorem face_spec (ho : ∀ f, f ∈ [29, 74, 75, 30, 31, 76] → orc f = none) (ht : Ef.Trims orc) (c : Crd) (a : Option (Nat × Nat)) (n : Nat) (cap : Cap) (h : AH) : acall orc T 29 [.agg (c.cells (.slice a n cap))] h = some (.int .i64 (faceE c n), h) := by
  refine acall_sym (ho _ (by simp)) tbl29 ?_
  have c1 := named_spec (orc := orc) (ho _ (by simp)) ht c.name
  have c2 := sname_spec (orc := orc) (ho _ (by simp)) c.suit
  have c3 := word_spec (orc := orc) (ho _ (by simp)) c.kind
  have c4 := cwithin_spec (orc := orc) (ho _ (by simp)) c.cost 10
  have c5 := cwithin_spec (orc := orc) (ho _ (by simp)) c.power 99
  have c6 := cwithin_spec (orc := orc) (ho _ (by simp)) c.health 99
  have c7 := tcheck_spec (orc := orc) (ho _ (by simp)) c.traits
  unfold faceE Crd.cells
  clear ho ht
  generalize Ef.isName c.name = b1 at *
  generalize e2 : decide (snm c.suit = []) = b2 at *
  generalize e3 : decide (wrd c.kind = []) = b3 at *
  generalize wiB c.cost 10 = b4 at *
  generalize wiB c.power 99 = b5 at *
  generalize wiB c.health 99 = b6 at *
  generalize e7 : (c.kind == 1) = b7 at *
  generalize e8 : (c.health == 0) = b8 at *
  generalize e9 : (c.power != 0) = b9 at *
  generalize e10 : (c.health != 0) = b10 at *
  generalize tcB c.traits = b11 at *
  generalize e12 : (c.kind == 2) = b12 at *
  generalize c.token = b14 at *
  generalize e13 : decide (4 < (n : Int)) = b13 at *
  dsimp only [List.length, List.replicate, List.append, List.cons_append, List.nil_append, Nat.reduceAdd, Nat.reduceSub]
  cases b1 with
  | true =>
    cases b2 with
    | true =>
      (have fct := And.intro @c1 (And.intro @c2 (And.intro @c3 (And.intro @c4 (And.intro @c5 (And.intro @c6 (And.intro @c7 (And.intro @e2 (And.intro @e3 (And.intro @e7 (And.intro @e8 (And.intro @e9 (And.intro @e10 (And.intro @e12 (And.intro @e13 fsAstr)))))))))))))); (repeat' with_reducible first | refine Red.to ?_ | refine A_any (k := ?_) | refine A_skip (k := ?_) | refine A_cond (k := ?_) | refine A_exne (k := ?_)); all_goals try clear fct)
      (simp only [DoneK, opsB, Nat.reduceEqDiff, Nat.reduceBEq, Nat.reduceBNe, Int.reduceBEq, Int.reduceBNe, Int.reduceLT, Int.reduceLE, Int.reduceEq, AV.one, AV.cells, CA.ev, abin, aint, aun, isShift, readVar, readCell, readCells, writeCells, fillA, reduceIte, Nat.reduceAdd, Nat.reduceSub, Nat.reduceLT, Nat.reduceLeDiff, resAll, resOne, AV.under, AV.unders, cut])
      all_goals rfl
    | false =>
      cases b3 with
      | true =>
        (have fct := And.intro @c1 (And.intro @c2 (And.intro @c3 (And.intro @c4 (And.intro @c5 (And.intro @c6 (And.intro @c7 (And.intro @e2 (And.intro @e3 (And.intro @e7 (And.intro @e8 (And.intro @e9 (And.intro @e10 (And.intro @e12 (And.intro @e13 fsAstr)))))))))))))); (repeat' with_reducible first | refine Red.to ?_ | refine A_any (k := ?_) | refine A_skip (k := ?_) | refine A_cond (k := ?_) | refine A_exne (k := ?_)); all_goals try clear fct)
        (simp only [DoneK, opsB, Nat.reduceEqDiff, Nat.reduceBEq, Nat.reduceBNe, Int.reduceBEq, Int.reduceBNe, Int.reduceLT, Int.reduceLE, Int.reduceEq, AV.one, AV.cells, CA.ev, abin, aint, aun, isShift, readVar, readCell, readCells, writeCells, fillA, reduceIte, Nat.reduceAdd, Nat.reduceSub, Nat.reduceLT, Nat.reduceLeDiff, resAll, resOne, AV.under, AV.unders, cut])
        all_goals rfl
      | false =>
        cases b4 with
        | true =>
          cases b5 with
          | true =>
            cases b6 with
            | true =>
              cases b7 with
              | true =>
                cases b8 with
                | true =>
                  (have fct := And.intro @c1 (And.intro @c2 (And.intro @c3 (And.intro @c4 (And.intro @c5 (And.intro @c6 (And.intro @c7 (And.intro @e2 (And.intro @e3 (And.intro @e7 (And.intro @e8 (And.intro @e9 (And.intro @e10 (And.intro @e12 (And.intro @e13 fsAstr)))))))))))))); (repeat' with_reducible first | refine Red.to ?_ | refine A_any (k := ?_) | refine A_skip (k := ?_) | refine A_cond (k := ?_) | refine A_exne (k := ?_)); all_goals try clear fct)
                  (simp only [DoneK, opsB, Nat.reduceEqDiff, Nat.reduceBEq, Nat.reduceBNe, Int.reduceBEq, Int.reduceBNe, Int.reduceLT, Int.reduceLE, Int.reduceEq, AV.one, AV.cells, CA.ev, abin, aint, aun, isShift, readVar, readCell, readCells, writeCells, fillA, reduceIte, Nat.reduceAdd, Nat.reduceSub, Nat.reduceLT, Nat.reduceLeDiff, resAll, resOne, AV.under, AV.unders, cut])
                  all_goals rfl
                | false =>
                  cases b11 with
                  | true =>
                    cases b12 with
                    | true =>
                      cases b14 with
                      | true =>
                        (have fct := And.intro @c1 (And.intro @c2 (And.intro @c3 (And.intro @c4 (And.intro @c5 (And.intro @c6 (And.intro @c7 (And.intro @e2 (And.intro @e3 (And.intro @e7 (And.intro @e8 (And.intro @e9 (And.intro @e10 (And.intro @e12 (And.intro @e13 fsAstr)))))))))))))); (repeat' with_reducible first | refine Red.to ?_ | refine A_any (k := ?_) | refine A_skip (k := ?_) | refine A_cond (k := ?_) | refine A_exne (k := ?_)); all_goals try clear fct)
                        (simp only [DoneK, opsB, Nat.reduceEqDiff, Nat.reduceBEq, Nat.reduceBNe, Int.reduceBEq, Int.reduceBNe, Int.reduceLT, Int.reduceLE, Int.reduceEq, AV.one, AV.cells, CA.ev, abin, aint, aun, isShift, readVar, readCell, readCells, writeCells, fillA, reduceIte, Nat.reduceAdd, Nat.reduceSub, Nat.reduceLT, Nat.reduceLeDiff, resAll, resOne, AV.under, AV.unders, cut])
                        all_goals rfl
                      | false =>
                        cases b13 with
                        | true =>
                          (have fct := And.intro @c1 (And.intro @c2 (And.intro @c3 (And.intro @c4 (And.intro @c5 (And.intro @c6 (And.intro @c7 (And.intro @e2 (And.intro @e3 (And.intro @e7 (And.intro @e8 (And.intro @e9 (And.intro @e10 (And.intro @e12 (And.intro @e13 fsAstr)))))))))))))); (repeat' with_reducible first | refine Red.to ?_ | refine A_any (k := ?_) | refine A_skip (k := ?_) | refine A_cond (k := ?_) | refine A_exne (k := ?_)); all_goals try clear fct)
                          (simp only [DoneK, opsB, Nat.reduceEqDiff, Nat.reduceBEq, Nat.reduceBNe, Int.reduceBEq, Int.reduceBNe, Int.reduceLT, Int.reduceLE, Int.reduceEq, AV.one, AV.cells, CA.ev, abin, aint, aun, isShift, readVar, readCell, readCells, writeCells, fillA, reduceIte, Nat.reduceAdd, Nat.reduceSub, Nat.reduceLT, Nat.reduceLeDiff, resAll, resOne, AV.under, AV.unders, cut])
                          all_goals rfl
                        | false =>
                          (have fct := And.intro @c1 (And.intro @c2 (And.intro @c3 (And.intro @c4 (And.intro @c5 (And.intro @c6 (And.intro @c7 (And.intro @e2 (And.intro @e3 (And.intro @e7 (And.intro @e8 (And.intro @e9 (And.intro @e10 (And.intro @e12 (And.intro @e13 fsAstr)))))))))))))); (repeat' with_reducible first | refine Red.to ?_ | refine A_any (k := ?_) | refine A_skip (k := ?_) | refine A_cond (k := ?_) | refine A_exne (k := ?_)); all_goals try clear fct)
                          (simp only [DoneK, opsB, Nat.reduceEqDiff, Nat.reduceBEq, Nat.reduceBNe, Int.reduceBEq, Int.reduceBNe, Int.reduceLT, Int.reduceLE, Int.reduceEq, AV.one, AV.cells, CA.ev, abin, aint, aun, isShift, readVar, readCell, readCells, writeCells, fillA, reduceIte, Nat.reduceAdd, Nat.reduceSub, Nat.reduceLT, Nat.reduceLeDiff, resAll, resOne, AV.under, AV.unders, cut])
                          all_goals rfl
                    | false =>
                      cases b13 with
                      | true =>
                        (have fct := And.intro @c1 (And.intro @c2 (And.intro @c3 (And.intro @c4 (And.intro @c5 (And.intro @c6 (And.intro @c7 (And.intro @e2 (And.intro @e3 (And.intro @e7 (And.intro @e8 (And.intro @e9 (And.intro @e10 (And.intro @e12 (And.intro @e13 fsAstr)))))))))))))); (repeat' with_reducible first | refine Red.to ?_ | refine A_any (k := ?_) | refine A_skip (k := ?_) | refine A_cond (k := ?_) | refine A_exne (k := ?_)); all_goals try clear fct)
                        (simp only [DoneK, opsB, Nat.reduceEqDiff, Nat.reduceBEq, Nat.reduceBNe, Int.reduceBEq, Int.reduceBNe, Int.reduceLT, Int.reduceLE, Int.reduceEq, AV.one, AV.cells, CA.ev, abin, aint, aun, isShift, readVar, readCell, readCells, writeCells, fillA, reduceIte, Nat.reduceAdd, Nat.reduceSub, Nat.reduceLT, Nat.reduceLeDiff, resAll, resOne, AV.under, AV.unders, cut])
                        all_goals rfl
                      | false =>
                        (have fct := And.intro @c1 (And.intro @c2 (And.intro @c3 (And.intro @c4 (And.intro @c5 (And.intro @c6 (And.intro @c7 (And.intro @e2 (And.intro @e3 (And.intro @e7 (And.intro @e8 (And.intro @e9 (And.intro @e10 (And.intro @e12 (And.intro @e13 fsAstr)))))))))))))); (repeat' with_reducible first | refine Red.to ?_ | refine A_any (k := ?_) | refine A_skip (k := ?_) | refine A_cond (k := ?_) | refine A_exne (k := ?_)); all_goals try clear fct)
                        (simp only [DoneK, opsB, Nat.reduceEqDiff, Nat.reduceBEq, Nat.reduceBNe, Int.reduceBEq, Int.reduceBNe, Int.reduceLT, Int.reduceLE, Int.reduceEq, AV.one, AV.cells, CA.ev, abin, aint, aun, isShift, readVar, readCell, readCells, writeCells, fillA, reduceIte, Nat.reduceAdd, Nat.reduceSub, Nat.reduceLT, Nat.reduceLeDiff, resAll, resOne, AV.under, AV.unders, cut])
                        all_goals rfl
                  | false =>
                    (have fct := And.intro @c1 (And.intro @c2 (And.intro @c3 (And.intro @c4 (And.intro @c5 (And.intro @c6 (And.intro @c7 (And.intro @e2 (And.intro @e3 (And.intro @e7 (And.intro @e8 (And.intro @e9 (And.intro @e10 (And.intro @e12 (And.intro @e13 fsAstr)))))))))))))); (repeat' with_reducible first | refine Red.to ?_ | refine A_any (k := ?_) | refine A_skip (k := ?_) | refine A_cond (k := ?_) | refine A_exne (k := ?_)); all_goals try clear fct)
                    (simp only [DoneK, opsB, Nat.reduceEqDiff, Nat.reduceBEq, Nat.reduceBNe, Int.reduceBEq, Int.reduceBNe, Int.reduceLT, Int.reduceLE, Int.reduceEq, AV.one, AV.cells, CA.ev, abin, aint, aun, isShift, readVar, readCell, readCells, writeCells, fillA, reduceIte, Nat.reduceAdd, Nat.reduceSub, Nat.reduceLT, Nat.reduceLeDiff, resAll, resOne, AV.under, AV.unders, cut])
                    all_goals rfl
              | false =>
                cases b9 with
                | true =>
                  (have fct := And.intro @c1 (And.intro @c2 (And.intro @c3 (And.intro @c4 (And.intro @c5 (And.intro @c6 (And.intro @c7 (And.intro @e2 (And.intro @e3 (And.intro @e7 (And.intro @e8 (And.intro @e9 (And.intro @e10 (And.intro @e12 (And.intro @e13 fsAstr)))))))))))))); (repeat' with_reducible first | refine Red.to ?_ | refine A_any (k := ?_) | refine A_skip (k := ?_) | refine A_cond (k := ?_) | refine A_exne (k := ?_)); all_goals try clear fct)
                  (simp only [DoneK, opsB, Nat.reduceEqDiff, Nat.reduceBEq, Nat.reduceBNe, Int.reduceBEq, Int.reduceBNe, Int.reduceLT, Int.reduceLE, Int.reduceEq, AV.one, AV.cells, CA.ev, abin, aint, aun, isShift, readVar, readCell, readCells, writeCells, fillA, reduceIte, Nat.reduceAdd, Nat.reduceSub, Nat.reduceLT, Nat.reduceLeDiff, resAll, resOne, AV.under, AV.unders, cut])
                  all_goals rfl
                | false =>
                  cases b10 with
                  | true =>
                    (have fct := And.intro @c1 (And.intro @c2 (And.intro @c3 (And.intro @c4 (And.intro @c5 (And.intro @c6 (And.intro @c7 (And.intro @e2 (And.intro @e3 (And.intro @e7 (And.intro @e8 (And.intro @e9 (And.intro @e10 (And.intro @e12 (And.intro @e13 fsAstr)))))))))))))); (repeat' with_reducible first | refine Red.to ?_ | refine A_any (k := ?_) | refine A_skip (k := ?_) | refine A_cond (k := ?_) | refine A_exne (k := ?_)); all_goals try clear fct)
                    (simp only [DoneK, opsB, Nat.reduceEqDiff, Nat.reduceBEq, Nat.reduceBNe, Int.reduceBEq, Int.reduceBNe, Int.reduceLT, Int.reduceLE, Int.reduceEq, AV.one, AV.cells, CA.ev, abin, aint, aun, isShift, readVar, readCell, readCells, writeCells, fillA, reduceIte, Nat.reduceAdd, Nat.reduceSub, Nat.reduceLT, Nat.reduceLeDiff, resAll, resOne, AV.under, AV.unders, cut])
                    all_goals rfl
                  | false =>
                    cases b11 with
                    | true =>
                      cases b12 with
                      | true =>
                        cases b14 with
                        | true =>
                          (have fct := And.intro @c1 (And.intro @c2 (And.intro @c3 (And.intro @c4 (And.intro @c5 (And.intro @c6 (And.intro @c7 (And.intro @e2 (And.intro @e3 (And.intro @e7 (And.intro @e8 (And.intro @e9 (And.intro @e10 (And.intro @e12 (And.intro @e13 fsAstr)))))))))))))); (repeat' with_reducible first | refine Red.to ?_ | refine A_any (k := ?_) | refine A_skip (k := ?_) | refine A_cond (k := ?_) | refine A_exne (k := ?_)); all_goals try clear fct)
                          (simp only [DoneK, opsB, Nat.reduceEqDiff, Nat.reduceBEq, Nat.reduceBNe, Int.reduceBEq, Int.reduceBNe, Int.reduceLT, Int.reduceLE, Int.reduceEq, AV.one, AV.cells, CA.ev, abin, aint, aun, isShift, readVar, readCell, readCells, writeCells, fillA, reduceIte, Nat.reduceAdd, Nat.reduceSub, Nat.reduceLT, Nat.reduceLeDiff, resAll, resOne, AV.under, AV.unders, cut])
                          all_goals rfl
                        | false =>
                          cases b13 with
                          | true =>
                            (have fct := And.intro @c1 (And.intro @c2 (And.intro @c3 (And.intro @c4 (And.intro @c5 (And.intro @c6 (And.intro @c7 (And.intro @e2 (And.intro @e3 (And.intro @e7 (And.intro @e8 (And.intro @e9 (And.intro @e10 (And.intro @e12 (And.intro @e13 fsAstr)))))))))))))); (repeat' with_reducible first | refine Red.to ?_ | refine A_any (k := ?_) | refine A_skip (k := ?_) | refine A_cond (k := ?_) | refine A_exne (k := ?_)); all_goals try clear fct)
                            (simp only [DoneK, opsB, Nat.reduceEqDiff, Nat.reduceBEq, Nat.reduceBNe, Int.reduceBEq, Int.reduceBNe, Int.reduceLT, Int.reduceLE, Int.reduceEq, AV.one, AV.cells, CA.ev, abin, aint, aun, isShift, readVar, readCell, readCells, writeCells, fillA, reduceIte, Nat.reduceAdd, Nat.reduceSub, Nat.reduceLT, Nat.reduceLeDiff, resAll, resOne, AV.under, AV.unders, cut])
                            all_goals rfl
                          | false =>
                            (have fct := And.intro @c1 (And.intro @c2 (And.intro @c3 (And.intro @c4 (And.intro @c5 (And.intro @c6 (And.intro @c7 (And.intro @e2 (And.intro @e3 (And.intro @e7 (And.intro @e8 (And.intro @e9 (And.intro @e10 (And.intro @e12 (And.intro @e13 fsAstr)))))))))))))); (repeat' with_reducible first | refine Red.to ?_ | refine A_any (k := ?_) | refine A_skip (k := ?_) | refine A_cond (k := ?_) | refine A_exne (k := ?_)); all_goals try clear fct)
                            (simp only [DoneK, opsB, Nat.reduceEqDiff, Nat.reduceBEq, Nat.reduceBNe, Int.reduceBEq, Int.reduceBNe, Int.reduceLT, Int.reduceLE, Int.reduceEq, AV.one, AV.cells, CA.ev, abin, aint, aun, isShift, readVar, readCell, readCells, writeCells, fillA, reduceIte, Nat.reduceAdd, Nat.reduceSub, Nat.reduceLT, Nat.reduceLeDiff, resAll, resOne, AV.under, AV.unders, cut])
                            all_goals rfl
                      | false =>
                        cases b13 with
                        | true =>
                          (have fct := And.intro @c1 (And.intro @c2 (And.intro @c3 (And.intro @c4 (And.intro @c5 (And.intro @c6 (And.intro @c7 (And.intro @e2 (And.intro @e3 (And.intro @e7 (And.intro @e8 (And.intro @e9 (And.intro @e10 (And.intro @e12 (And.intro @e13 fsAstr)))))))))))))); (repeat' with_reducible first | refine Red.to ?_ | refine A_any (k := ?_) | refine A_skip (k := ?_) | refine A_cond (k := ?_) | refine A_exne (k := ?_)); all_goals try clear fct)
                          (simp only [DoneK, opsB, Nat.reduceEqDiff, Nat.reduceBEq, Nat.reduceBNe, Int.reduceBEq, Int.reduceBNe, Int.reduceLT, Int.reduceLE, Int.reduceEq, AV.one, AV.cells, CA.ev, abin, aint, aun, isShift, readVar, readCell, readCells, writeCells, fillA, reduceIte, Nat.reduceAdd, Nat.reduceSub, Nat.reduceLT, Nat.reduceLeDiff, resAll, resOne, AV.under, AV.unders, cut])
                          all_goals rfl
                        | false =>
                          (have fct := And.intro @c1 (And.intro @c2 (And.intro @c3 (And.intro @c4 (And.intro @c5 (And.intro @c6 (And.intro @c7 (And.intro @e2 (And.intro @e3 (And.intro @e7 (And.intro @e8 (And.intro @e9 (And.intro @e10 (And.intro @e12 (And.intro @e13 fsAstr)))))))))))))); (repeat' with_reducible first | refine Red.to ?_ | refine A_any (k := ?_) | refine A_skip (k := ?_) | refine A_cond (k := ?_) | refine A_exne (k := ?_)); all_goals try clear fct)
                          (simp only [DoneK, opsB, Nat.reduceEqDiff, Nat.reduceBEq, Nat.reduceBNe, Int.reduceBEq, Int.reduceBNe, Int.reduceLT, Int.reduceLE, Int.reduceEq, AV.one, AV.cells, CA.ev, abin, aint, aun, isShift, readVar, readCell, readCells, writeCells, fillA, reduceIte, Nat.reduceAdd, Nat.reduceSub, Nat.reduceLT, Nat.reduceLeDiff, resAll, resOne, AV.under, AV.unders, cut])
                          all_goals rfl
                    | false =>
                      (have fct := And.intro @c1 (And.intro @c2 (And.intro @c3 (And.intro @c4 (And.intro @c5 (And.intro @c6 (And.intro @c7 (And.intro @e2 (And.intro @e3 (And.intro @e7 (And.intro @e8 (And.intro @e9 (And.intro @e10 (And.intro @e12 (And.intro @e13 fsAstr)))))))))))))); (repeat' with_reducible first | refine Red.to ?_ | refine A_any (k := ?_) | refine A_skip (k := ?_) | refine A_cond (k := ?_) | refine A_exne (k := ?_)); all_goals try clear fct)
                      (simp only [DoneK, opsB, Nat.reduceEqDiff, Nat.reduceBEq, Nat.reduceBNe, Int.reduceBEq, Int.reduceBNe, Int.reduceLT, Int.reduceLE, Int.reduceEq, AV.one, AV.cells, CA.ev, abin, aint, aun, isShift, readVar, readCell, readCells, writeCells, fillA, reduceIte, Nat.reduceAdd, Nat.reduceSub, Nat.reduceLT, Nat.reduceLeDiff, resAll, resOne, AV.under, AV.unders, cut])
                      all_goals rfl
            | false =>
              (have fct := And.intro @c1 (And.intro @c2 (And.intro @c3 (And.intro @c4 (And.intro @c5 (And.intro @c6 (And.intro @c7 (And.intro @e2 (And.intro @e3 (And.intro @e7 (And.intro @e8 (And.intro @e9 (And.intro @e10 (And.intro @e12 (And.intro @e13 fsAstr)))))))))))))); (repeat' with_reducible first | refine Red.to ?_ | refine A_any (k := ?_) | refine A_skip (k := ?_) | refine A_cond (k := ?_) | refine A_exne (k := ?_)); all_goals try clear fct)
              (simp only [DoneK, opsB, Nat.reduceEqDiff, Nat.reduceBEq, Nat.reduceBNe, Int.reduceBEq, Int.reduceBNe, Int.reduceLT, Int.reduceLE, Int.reduceEq, AV.one, AV.cells, CA.ev, abin, aint, aun, isShift, readVar, readCell, readCells, writeCells, fillA, reduceIte, Nat.reduceAdd, Nat.reduceSub, Nat.reduceLT, Nat.reduceLeDiff, resAll, resOne, AV.under, AV.unders, cut])
              all_goals rfl
          | false =>
            (have fct := And.intro @c1 (And.intro @c2 (And.intro @c3 (And.intro @c4 (And.intro @c5 (And.intro @c6 (And.intro @c7 (And.intro @e2 (And.intro @e3 (And.intro @e7 (And.intro @e8 (And.intro @e9 (And.intro @e10 (And.intro @e12 (And.intro @e13 fsAstr)))))))))))))); (repeat' with_reducible first | refine Red.to ?_ | refine A_any (k := ?_) | refine A_skip (k := ?_) | refine A_cond (k := ?_) | refine A_exne (k := ?_)); all_goals try clear fct)
            (simp only [DoneK, opsB, Nat.reduceEqDiff, Nat.reduceBEq, Nat.reduceBNe, Int.reduceBEq, Int.reduceBNe, Int.reduceLT, Int.reduceLE, Int.reduceEq, AV.one, AV.cells, CA.ev, abin, aint, aun, isShift, readVar, readCell, readCells, writeCells, fillA, reduceIte, Nat.reduceAdd, Nat.reduceSub, Nat.reduceLT, Nat.reduceLeDiff, resAll, resOne, AV.under, AV.unders, cut])
            all_goals rfl
        | false =>
          (have fct := And.intro @c1 (And.intro @c2 (And.intro @c3 (And.intro @c4 (And.intro @c5 (And.intro @c6 (And.intro @c7 (And.intro @e2 (And.intro @e3 (And.intro @e7 (And.intro @e8 (And.intro @e9 (And.intro @e10 (And.intro @e12 (And.intro @e13 fsAstr)))))))))))))); (repeat' with_reducible first | refine Red.to ?_ | refine A_any (k := ?_) | refine A_skip (k := ?_) | refine A_cond (k := ?_) | refine A_exne (k := ?_)); all_goals try clear fct)
          (simp only [DoneK, opsB, Nat.reduceEqDiff, Nat.reduceBEq, Nat.reduceBNe, Int.reduceBEq, Int.reduceBNe, Int.reduceLT, Int.reduceLE, Int.reduceEq, AV.one, AV.cells, CA.ev, abin, aint, aun, isShift, readVar, readCell, readCells, writeCells, fillA, reduceIte, Nat.reduceAdd, Nat.reduceSub, Nat.reduceLT, Nat.reduceLeDiff, resAll, resOne, AV.under, AV.unders, cut])
          all_goals rfl
  | false =>
    (have fct := And.intro @c1 (And.intro @c2 (And.intro @c3 (And.intro @c4 (And.intro @c5 (And.intro @c6 (And.intro @c7 (And.intro @e2 (And.intro @e3 (And.intro @e7 (And.intro @e8 (And.intro @e9 (And.intro @e10 (And.intro @e12 (And.intro @e13 fsAstr)))))))))))))); (repeat' with_reducible first | refine Red.to ?_ | refine A_any (k := ?_) | refine A_skip (k := ?_) | refine A_cond (k := ?_) | refine A_exne (k := ?_)); all_goals try clear fct)
    (simp only [DoneK, opsB, Nat.reduceEqDiff, Nat.reduceBEq, Nat.reduceBNe, Int.reduceBEq, Int.reduceBNe, Int.reduceLT, Int.reduceLE, Int.reduceEq, AV.one, AV.cells, CA.ev, abin, aint, aun, isShift, readVar, readCell, readCells, writeCells, fillA, reduceIte, Nat.reduceAdd, Nat.reduceSub, Nat.reduceLT, Nat.reduceLeDiff, resAll, resOne, AV.under, AV.unders, cut])
    all_goals rfl

end Go.Proofs.Cards
