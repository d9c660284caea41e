/- The count of all parts within reach. -/
import Derived.Test.YtdehfehdaiappaaGreatDoorZdEfCount
import Derived.Test.YtdehfehdaiappaaGreatDoorFsOver
namespace Go.Proofs.Ef
open Go Go.Fs
set_option linter.unusedSimpArgs false
set_option linter.unusedVariables false
variable {orc : Orc}
def cf4 : CF := ⟨54, [(.tmp 0)], (.seq (.region [⟨(some 0), (.mv (.c (.bool false))), none⟩]) (.seq (.region [⟨(some 1), (.mv (.c (.int .i64 0))), none⟩]) (.seq (.seq (.region [⟨(some 2), (.mv (.c (.int .i64 0))), none⟩]) (.block 0 (.loop (.seq (.seq (.region [⟨(some 11), (.mv (.t 2)), none⟩, ⟨(some 12), (.bin .lss .other (.t 11) (.c (.int .i64 8))), none⟩]) (.cond (.t 12) .skip (.exit 0))) (.seq (.block 1 (.seq (.region [⟨(some 3), (.mv (.c (.int .i64 0))), none⟩]) (.block 2 (.loop (.seq (.seq (.region [⟨(some 15), (.mv (.t 3)), none⟩, ⟨(some 16), (.bin .lss .other (.t 15) (.c (.int .i64 21))), none⟩]) (.cond (.t 16) .skip (.exit 2))) (.seq (.block 3 (.seq (.region [⟨(some 4), (.mv (.c (.int .i64 0))), none⟩]) (.block 4 (.loop (.seq (.seq (.region [⟨(some 19), (.mv (.t 4)), none⟩, ⟨(some 20), (.bin .lss .other (.t 19) (.c (.int .i64 12))), none⟩]) (.cond (.t 20) .skip (.exit 4))) (.seq (.block 5 (.seq (.region [⟨(some 23), (.mv (.t 2)), none⟩, ⟨(some 24), (.toInt .u8 (.t 23)), none⟩, ⟨(some 25), (.mv (.t 3)), none⟩, ⟨(some 26), (.toInt .u8 (.t 25)), none⟩, ⟨(some 27), (.mv (.t 4)), none⟩, ⟨(some 28), (.toInt .u8 (.t 27)), none⟩, ⟨(some 29), (.build [(.int .u8 0), (.int .u8 0), (.int .u8 0), (.int .i64 0), (.int .u8 0), (.int .u8 0), (.int .u8 0), (.str [])] [(0, (1, (.t 24))), (1, (1, (.t 26))), (2, (1, (.t 28)))]), none⟩, ⟨(some 5), (.alloc [(.int .u8 0), (.int .u8 0), (.int .u8 0), (.int .i64 0), (.int .u8 0), (.int .u8 0), (.int .u8 0), (.str [])]), none⟩, ⟨none, (.store 8 (.t 5) (.t 29)), none⟩]) (.seq (.region [⟨(some 31), (.faddr 1 (.t 5)), none⟩, ⟨(some 32), (.load none (.t 31)), none⟩, ⟨(some 33), (.faddr 2 (.t 5)), none⟩, ⟨(some 34), (.load none (.t 33)), none⟩, ⟨(some 35), (.call (.f 8) [(.t 32), (.t 34)]), none⟩, ⟨(some 30), (.mv (.t 35)), none⟩, ⟨(some 36), (.ext 0 (.t 30)), none⟩, ⟨(some 37), (.ext 1 (.t 30)), none⟩, ⟨(some 38), (.ext 2 (.t 30)), none⟩, ⟨(some 39), (.ext 3 (.t 30)), none⟩, ⟨(some 40), (.ext 4 (.t 30)), none⟩, ⟨(some 6), (.mv (.t 36)), none⟩, ⟨(some 7), (.mv (.t 37)), none⟩, ⟨(some 8), (.mv (.t 38)), none⟩, ⟨(some 9), (.mv (.t 39)), none⟩, ⟨(some 10), (.mv (.t 40)), none⟩]) (.seq (.seq (.region [⟨(some 41), (.mv (.t 6)), none⟩]) (.cond (.t 41) (.region [⟨(some 42), (.faddr 3 (.t 5)), none⟩, ⟨none, (.store 1 (.t 42) (.c (.int .i64 1))), none⟩]) .skip)) (.seq (.seq (.region [⟨(some 43), (.mv (.t 10)), none⟩]) (.cond (.t 43) (.region [⟨(some 44), (.faddr 7 (.t 5)), none⟩, ⟨none, (.store 1 (.t 44) (.c (.str [97]))), none⟩]) .skip)) (.region [⟨(some 45), (.mv (.t 1)), none⟩, ⟨(some 46), (.load (some 8) (.t 5)), none⟩, ⟨(some 47), (.call (.f 9) [(.t 46)]), none⟩, ⟨(some 48), (.bin .add .other (.t 45) (.t 47)), none⟩, ⟨(some 1), (.mv (.t 48)), none⟩])))))) (.region [⟨(some 21), (.mv (.t 4)), none⟩, ⟨(some 22), (.bin .add .other (.t 21) (.c (.int .i64 1))), none⟩, ⟨(some 4), (.mv (.t 22)), none⟩]))))))) (.region [⟨(some 17), (.mv (.t 3)), none⟩, ⟨(some 18), (.bin .add .other (.t 17) (.c (.int .i64 1))), none⟩, ⟨(some 3), (.mv (.t 18)), none⟩]))))))) (.region [⟨(some 13), (.mv (.t 2)), none⟩, ⟨(some 14), (.bin .add .other (.t 13) (.c (.int .i64 1))), none⟩, ⟨(some 2), (.mv (.t 14)), none⟩])))))) (.seq (.region [⟨(some 49), (.mv (.t 1)), none⟩, ⟨(some 50), (.bin .eql .other (.t 49) (.c (.int .i64 1383))), none⟩, ⟨(some 51), (.mv (.t 50)), none⟩, ⟨(some 52), (.call (.f 10) []), (some (51, true))⟩, ⟨(some 53), (.pick (.t 51) (.t 52) (.c (.bool false))), none⟩, ⟨(some 0), (.mv (.t 53)), none⟩]) .ret))))⟩
theorem tbl4 : tbl Tryz.prog 4 = some cf4 := by kernel_rfl

theorem settle_fst0 (h h' : AH) (v : AV) : (Fs.settle h h' v).1 = v := by unfold Fs.settle; split <;> rfl

def item (w v m : Nat) : Nat := fieldsF (w : Int) (v : Int) (m : Int) (if uC (v : Int) = true then 1 else 0) (if uN (v : Int) = true then [97] else [])
def sumM (w v : Nat) : Nat → Nat
  | 0 => 0
  | m + 1 => sumM w v m + item w v m
def sumV (w : Nat) : Nat → Nat
  | 0 => 0
  | v + 1 => sumV w v + sumM w v 12
def sumW : Nat → Nat
  | 0 => 0
  | w + 1 => sumW w + sumV w 21
theorem item_le (w v m : Nat) : item w v m ≤ 192 := by
  unfold item fieldsF wc
  repeat' split
  all_goals omega
theorem sumM_le (w v : Nat) : ∀ m, sumM w v m ≤ 192 * m
  | 0 => Nat.le_refl _
  | m + 1 => by
    have := sumM_le w v m
    have := item_le w v m
    simp only [sumM]; omega
theorem sumV_le (w : Nat) : ∀ v, sumV w v ≤ 2304 * v
  | 0 => Nat.le_refl _
  | v + 1 => by
    have := sumV_le w v
    have := sumM_le w v 12
    simp only [sumV]; omega
theorem sumW_le : ∀ w, sumW w ≤ 48384 * w
  | 0 => Nat.le_refl _
  | w + 1 => by
    have := sumW_le w
    have := sumV_le w 21
    simp only [sumW]; omega
theorem sum_all : sumW 8 = 1383 := by kernel_rfl

structure CnW (h0 : AH) (n : Nat) (tm : List AV) (h : AH) : Prop where
  len : tm.length = 54
  grown : Grown h0 h
  st : ∃ i : Nat, n = 8 - i ∧ i ≤ 8 ∧ tm.getD 2 AV.undef = .int .i64 (i : Int) ∧ tm.getD 1 AV.undef = .int .i64 ((sumW i : Nat) : Int)
structure CnV (h0 : AH) (i : Nat) (n : Nat) (tm : List AV) (h : AH) : Prop where
  len : tm.length = 54
  grown : Grown h0 h
  t2 : tm.getD 2 AV.undef = .int .i64 (i : Int)
  st : ∃ j : Nat, n = 21 - j ∧ j ≤ 21 ∧ tm.getD 3 AV.undef = .int .i64 (j : Int) ∧ tm.getD 1 AV.undef = .int .i64 ((sumW i + sumV i j : Nat) : Int)
structure CnM (h0 : AH) (i j : Nat) (n : Nat) (tm : List AV) (h : AH) : Prop where
  len : tm.length = 54
  grown : Grown h0 h
  t2 : tm.getD 2 AV.undef = .int .i64 (i : Int)
  t3 : tm.getD 3 AV.undef = .int .i64 (j : Int)
  st : ∃ k : Nat, n = 12 - k ∧ k ≤ 12 ∧ tm.getD 4 AV.undef = .int .i64 (k : Int) ∧ tm.getD 1 AV.undef = .int .i64 ((sumW i + (sumV i j + sumM i j k) : Nat) : Int)

set_option maxRecDepth 100000 in
set_option maxHeartbeats 16000000 in
theorem law_spec (ho : orc 4 = none) (hu : orc 8 = none) (hF : ∀ (w v m c : Int) (nm : List UInt8) (h : AH), acall orc T 9 [.agg (part w v m c 0 0 0 nm)] h = some (.int .i64 ((fieldsF w v m c nm : Nat) : Int), h)) {h0 h : AH} (hL : ∀ h, Grown h0 h → acall orc T 10 [] h = some (.bool true, h)) (hg : Grown h0 h) :
    ∃ h1, acall orc T 4 [] h = some (.bool true, h1) := by
  suffices hs : ∃ v1 h', acall orc T 4 [] h = some (v1, h') ∧ v1 = .bool true by
    obtain ⟨v1, h', h1, rfl⟩ := hs
    exact ⟨h', h1⟩
  refine acall_facts (R := fun v1 _ => v1 = .bool true) ho tbl4 ?_
  simp only [settle_fst0]
  dsimp only [List.length, List.replicate, List.append, List.cons_append, List.nil_append, Nat.reduceAdd, Nat.reduceSub]
  repeat' first | (simp only [op_lenS, lenSV_str, op_lenV, lenV_slice, op_toInt, toIntV_int, op_iaddrS, RetK_inv, RetK_inv_exit, RetK_inv_ret, Nat.add_assoc, Nat.reduceEqDiff, Nat.reduceBEq, Nat.reduceBNe, Nat.le_min, Nat.le_add_right, Nat.min_self, Int.reduceBEq, Int.reduceBNe, Int.reduceLT, Int.reduceLE, Int.reduceEq, beq_self_eq_true, bne_self_eq_false, Bool.not_true, Bool.not_false, decide_true, decide_false, decide_eq_true_eq, Bool.and_eq_true, List.mapM_cons, List.mapM_nil, Option.bind_eq_bind, Option.pure_def, aeqK_agg, aeqK_scal, leavesK_nil, leavesK_cons, leafK_i, leafK_b, leafK_s, DrawK_nil, DrawK_cons, DrawK_guard, DResK_some, DGuardK_tt, DGuardK_ff, DGuardK_tf, DGuardK_ft, DGuardK_u, kept_load, Kept, KeptOne, closeOp, CO.quiet, CO.reads, CodeK_seq, CodeK_region, CodeK_skip, CodeK_ret, CodeK_exit, CodeK_cond, CodeK_block, CondK_true, CondK_false, RunK_cons, RunK_nil, RunK_guard, GuardK_tt, GuardK_ff, GuardK_tf, GuardK_ft, GuardK_u, ResK_some, RetK_nil, RetK_seq, RetK_seq_exit, RetK_seq_ret, RetK_block, RetK_block_ret, RetK_block_exit, RetK_block_exit_ne, op_mv, op_un, op_bin, op_load, loadV_ptr, op_faddr, faddrV_ptr, op_pick, pickV_true, pickV_false, pickV_bool, pickV_same, op_box, boxV_agg, op_call, op_build, op_ext, op_alloc, op_store, storeV_ptr, List.all_cons, List.all_nil, AV.one, AV.cells, Bool.and_self, Bool.and_true, Bool.true_and, put, CA.ev, List.set_cons_zero, List.set_cons_succ, List.getD_cons_zero, List.getD_cons_succ, abin, aint, aun, isShift, Option.map_some, Option.bind_some, List.map_cons, List.map_nil, Hp.n_withLow, Hp.n_push, Hp.n_set, Hp.low_withLow, Hp.low_push, Hp.low_set, Hp.get_push, Hp.get_set, Hp.get_withLow, readVar, readCell, readCells, writeCells, cut, fillA, Bool.false_eq_true, if_false, if_true, reduceIte, List.getElem?_cons_zero, List.getElem?_cons_succ, Nat.zero_add, Nat.add_zero, Nat.reduceAdd, Nat.reduceSub, Nat.reduceLT, Nat.reduceLeDiff, Nat.reduceEqDiff, List.length_cons, List.length_nil, List.take_succ_cons, List.take_zero, List.drop_zero, List.drop_succ_cons, List.cons_append, List.nil_append, List.append_nil, DoneK, resAll, resOne, AV.under, AV.unders, and_true, true_and, and_self, or_true, true_or, cond_true, cond_false, Nat.le_refl, Nat.add_eq_left, Nat.left_eq_add, Nat.add_right_cancel_iff, Nat.add_left_cancel_iff, *]) | (refine GuardK_split (fun hb => ?_) (fun hb => ?_)) | (refine CondK_split (fun hb => ?_) (fun hb => ?_)) | (refine CodeK_regionD _ ?_) | (refine DGuardK_split (fun hb => ?_) (fun hb => ?_))
  refine CodeK_loop (CnW h0) 8 ?_ ?_
  · exact ⟨rfl, hg.low _, 0, by omega, by omega, rfl, rfl⟩
  clear hg
  intro n tm h' I
  obtain ⟨i, hn, hi, e2, e1⟩ := I.st
  have el := I.len
  have hg := I.grown
  have bW := sumW_le i
  by_cases hlt : i < 8
  case neg =>
    obtain rfl : i = 8 := by omega
    have l1 : decide (((8 : Nat) : Int) < 8) = false := by decide
    have l2 : ((((1383 : Nat) : Int)) == 1383) = true := by decide
    rw [sum_all] at e1
    have c1 := hL h' hg
    repeat' first | (simp only [op_lenS, lenSV_str, op_lenV, lenV_slice, op_toInt, toIntV_int, op_iaddrS, RetK_inv, RetK_inv_exit, RetK_inv_ret, Nat.add_assoc, Nat.reduceEqDiff, Nat.reduceBEq, Nat.reduceBNe, Nat.le_min, Nat.le_add_right, Nat.min_self, Int.reduceBEq, Int.reduceBNe, Int.reduceLT, Int.reduceLE, Int.reduceEq, beq_self_eq_true, bne_self_eq_false, Bool.not_true, Bool.not_false, decide_true, decide_false, decide_eq_true_eq, Bool.and_eq_true, List.mapM_cons, List.mapM_nil, Option.bind_eq_bind, Option.pure_def, aeqK_agg, aeqK_scal, leavesK_nil, leavesK_cons, leafK_i, leafK_b, leafK_s, DrawK_nil, DrawK_cons, DrawK_guard, DResK_some, DGuardK_tt, DGuardK_ff, DGuardK_tf, DGuardK_ft, DGuardK_u, kept_load, Kept, KeptOne, closeOp, CO.quiet, CO.reads, CodeK_seq, CodeK_region, CodeK_skip, CodeK_ret, CodeK_exit, CodeK_cond, CodeK_block, CondK_true, CondK_false, RunK_cons, RunK_nil, RunK_guard, GuardK_tt, GuardK_ff, GuardK_tf, GuardK_ft, GuardK_u, ResK_some, RetK_nil, RetK_seq, RetK_seq_exit, RetK_seq_ret, RetK_block, RetK_block_ret, RetK_block_exit, RetK_block_exit_ne, op_mv, op_un, op_bin, op_load, loadV_ptr, op_faddr, faddrV_ptr, op_pick, pickV_true, pickV_false, pickV_bool, pickV_same, op_box, boxV_agg, op_call, op_build, op_ext, op_alloc, op_store, storeV_ptr, List.all_cons, List.all_nil, AV.one, AV.cells, Bool.and_self, Bool.and_true, Bool.true_and, put, CA.ev, List.set_cons_zero, List.set_cons_succ, List.getD_cons_zero, List.getD_cons_succ, abin, aint, aun, isShift, Option.map_some, Option.bind_some, List.map_cons, List.map_nil, Hp.n_withLow, Hp.n_push, Hp.n_set, Hp.low_withLow, Hp.low_push, Hp.low_set, Hp.get_push, Hp.get_set, Hp.get_withLow, readVar, readCell, readCells, writeCells, cut, fillA, Bool.false_eq_true, if_false, if_true, reduceIte, List.getElem?_cons_zero, List.getElem?_cons_succ, Nat.zero_add, Nat.add_zero, Nat.reduceAdd, Nat.reduceSub, Nat.reduceLT, Nat.reduceLeDiff, Nat.reduceEqDiff, List.length_cons, List.length_nil, List.take_succ_cons, List.take_zero, List.drop_zero, List.drop_succ_cons, List.cons_append, List.nil_append, List.append_nil, DoneK, resAll, resOne, AV.under, AV.unders, and_true, true_and, and_self, or_true, true_or, cond_true, cond_false, Nat.le_refl, Nat.add_eq_left, Nat.left_eq_add, Nat.add_right_cancel_iff, Nat.add_left_cancel_iff, el, e1, e2, l1, l2, c1, Option.some.injEq, tmset_self, tmset_ne, List.length_set, Nat.reduceBEq, Nat.reduceLT, *]) | (refine GuardK_split (fun hb => ?_) (fun hb => ?_)) | (refine CondK_split (fun hb => ?_) (fun hb => ?_)) | (refine CodeK_regionD _ ?_) | (refine DGuardK_split (fun hb => ?_) (fun hb => ?_))
    exact ⟨_, rfl, rfl⟩
  case pos =>
  have l1 : decide ((i : Int) < 8) = true := by rw [decide_eq_true_eq]; omega
  repeat' first | (simp only [op_lenS, lenSV_str, op_lenV, lenV_slice, op_toInt, toIntV_int, op_iaddrS, RetK_inv, RetK_inv_exit, RetK_inv_ret, Nat.add_assoc, Nat.reduceEqDiff, Nat.reduceBEq, Nat.reduceBNe, Nat.le_min, Nat.le_add_right, Nat.min_self, Int.reduceBEq, Int.reduceBNe, Int.reduceLT, Int.reduceLE, Int.reduceEq, beq_self_eq_true, bne_self_eq_false, Bool.not_true, Bool.not_false, decide_true, decide_false, decide_eq_true_eq, Bool.and_eq_true, List.mapM_cons, List.mapM_nil, Option.bind_eq_bind, Option.pure_def, aeqK_agg, aeqK_scal, leavesK_nil, leavesK_cons, leafK_i, leafK_b, leafK_s, DrawK_nil, DrawK_cons, DrawK_guard, DResK_some, DGuardK_tt, DGuardK_ff, DGuardK_tf, DGuardK_ft, DGuardK_u, kept_load, Kept, KeptOne, closeOp, CO.quiet, CO.reads, CodeK_seq, CodeK_region, CodeK_skip, CodeK_ret, CodeK_exit, CodeK_cond, CodeK_block, CondK_true, CondK_false, RunK_cons, RunK_nil, RunK_guard, GuardK_tt, GuardK_ff, GuardK_tf, GuardK_ft, GuardK_u, ResK_some, RetK_nil, RetK_seq, RetK_seq_exit, RetK_seq_ret, RetK_block, RetK_block_ret, RetK_block_exit, RetK_block_exit_ne, op_mv, op_un, op_bin, op_load, loadV_ptr, op_faddr, faddrV_ptr, op_pick, pickV_true, pickV_false, pickV_bool, pickV_same, op_box, boxV_agg, op_call, op_build, op_ext, op_alloc, op_store, storeV_ptr, List.all_cons, List.all_nil, AV.one, AV.cells, Bool.and_self, Bool.and_true, Bool.true_and, put, CA.ev, List.set_cons_zero, List.set_cons_succ, List.getD_cons_zero, List.getD_cons_succ, abin, aint, aun, isShift, Option.map_some, Option.bind_some, List.map_cons, List.map_nil, Hp.n_withLow, Hp.n_push, Hp.n_set, Hp.low_withLow, Hp.low_push, Hp.low_set, Hp.get_push, Hp.get_set, Hp.get_withLow, readVar, readCell, readCells, writeCells, cut, fillA, Bool.false_eq_true, if_false, if_true, reduceIte, List.getElem?_cons_zero, List.getElem?_cons_succ, Nat.zero_add, Nat.add_zero, Nat.reduceAdd, Nat.reduceSub, Nat.reduceLT, Nat.reduceLeDiff, Nat.reduceEqDiff, List.length_cons, List.length_nil, List.take_succ_cons, List.take_zero, List.drop_zero, List.drop_succ_cons, List.cons_append, List.nil_append, List.append_nil, DoneK, resAll, resOne, AV.under, AV.unders, and_true, true_and, and_self, or_true, true_or, cond_true, cond_false, Nat.le_refl, Nat.add_eq_left, Nat.left_eq_add, Nat.add_right_cancel_iff, Nat.add_left_cancel_iff, el, e1, e2, l1, tmset_self, tmset_ne, List.length_set, Nat.reduceBEq, Nat.reduceLT, *]) | (refine GuardK_split (fun hb => ?_) (fun hb => ?_)) | (refine CondK_split (fun hb => ?_) (fun hb => ?_)) | (refine CodeK_regionD _ ?_) | (refine DGuardK_split (fun hb => ?_) (fun hb => ?_))
  refine CodeK_loop (CnV h0 i) 21 ?_ ?_
  · exact ⟨by simp only [List.length_set, el], hg, by simp only [tmset_self, tmset_ne, List.length_set, Nat.reduceBEq, Nat.reduceLT, el, e2], 0, by omega, by omega, by simp only [tmset_self, tmset_ne, List.length_set, Nat.reduceBEq, Nat.reduceLT, el]; rfl, by simp only [tmset_self, tmset_ne, List.length_set, Nat.reduceBEq, Nat.reduceLT, el, e1]; rfl⟩
  clear el e1 e2 l1 I hg
  intro n2 tm h' I
  obtain ⟨j, hn2, hj, e3, e1⟩ := I.st
  have el := I.len
  have hg := I.grown
  have e2 := I.t2
  have bV := sumV_le i j
  by_cases hlt2 : j < 21
  case neg =>
    obtain rfl : j = 21 := by omega
    have l1 : decide (((21 : Nat) : Int) < 21) = false := by decide
    have w1 : IntKind.wrap .i64 ((i : Int) + 1) = ((i + 1 : Nat) : Int) := by rw [wrap_i64 (by omega) (by omega)]; omega
    repeat' first | (simp only [op_lenS, lenSV_str, op_lenV, lenV_slice, op_toInt, toIntV_int, op_iaddrS, RetK_inv, RetK_inv_exit, RetK_inv_ret, Nat.add_assoc, Nat.reduceEqDiff, Nat.reduceBEq, Nat.reduceBNe, Nat.le_min, Nat.le_add_right, Nat.min_self, Int.reduceBEq, Int.reduceBNe, Int.reduceLT, Int.reduceLE, Int.reduceEq, beq_self_eq_true, bne_self_eq_false, Bool.not_true, Bool.not_false, decide_true, decide_false, decide_eq_true_eq, Bool.and_eq_true, List.mapM_cons, List.mapM_nil, Option.bind_eq_bind, Option.pure_def, aeqK_agg, aeqK_scal, leavesK_nil, leavesK_cons, leafK_i, leafK_b, leafK_s, DrawK_nil, DrawK_cons, DrawK_guard, DResK_some, DGuardK_tt, DGuardK_ff, DGuardK_tf, DGuardK_ft, DGuardK_u, kept_load, Kept, KeptOne, closeOp, CO.quiet, CO.reads, CodeK_seq, CodeK_region, CodeK_skip, CodeK_ret, CodeK_exit, CodeK_cond, CodeK_block, CondK_true, CondK_false, RunK_cons, RunK_nil, RunK_guard, GuardK_tt, GuardK_ff, GuardK_tf, GuardK_ft, GuardK_u, ResK_some, RetK_nil, RetK_seq, RetK_seq_exit, RetK_seq_ret, RetK_block, RetK_block_ret, RetK_block_exit, RetK_block_exit_ne, op_mv, op_un, op_bin, op_load, loadV_ptr, op_faddr, faddrV_ptr, op_pick, pickV_true, pickV_false, pickV_bool, pickV_same, op_box, boxV_agg, op_call, op_build, op_ext, op_alloc, op_store, storeV_ptr, List.all_cons, List.all_nil, AV.one, AV.cells, Bool.and_self, Bool.and_true, Bool.true_and, put, CA.ev, List.set_cons_zero, List.set_cons_succ, List.getD_cons_zero, List.getD_cons_succ, abin, aint, aun, isShift, Option.map_some, Option.bind_some, List.map_cons, List.map_nil, Hp.n_withLow, Hp.n_push, Hp.n_set, Hp.low_withLow, Hp.low_push, Hp.low_set, Hp.get_push, Hp.get_set, Hp.get_withLow, readVar, readCell, readCells, writeCells, cut, fillA, Bool.false_eq_true, if_false, if_true, reduceIte, List.getElem?_cons_zero, List.getElem?_cons_succ, Nat.zero_add, Nat.add_zero, Nat.reduceAdd, Nat.reduceSub, Nat.reduceLT, Nat.reduceLeDiff, Nat.reduceEqDiff, List.length_cons, List.length_nil, List.take_succ_cons, List.take_zero, List.drop_zero, List.drop_succ_cons, List.cons_append, List.nil_append, List.append_nil, DoneK, resAll, resOne, AV.under, AV.unders, and_true, true_and, and_self, or_true, true_or, cond_true, cond_false, Nat.le_refl, Nat.add_eq_left, Nat.left_eq_add, Nat.add_right_cancel_iff, Nat.add_left_cancel_iff, el, e1, e2, e3, l1, w1, tmset_self, tmset_ne, List.length_set, Nat.reduceBEq, Nat.reduceLT, *]) | (refine GuardK_split (fun hb => ?_) (fun hb => ?_)) | (refine CondK_split (fun hb => ?_) (fun hb => ?_)) | (refine CodeK_regionD _ ?_) | (refine DGuardK_split (fun hb => ?_) (fun hb => ?_))
    exact ⟨8 - (i + 1), by omega, by simp only [List.length_set, el], hg, i + 1, rfl, by omega, by simp only [tmset_self, tmset_ne, List.length_set, Nat.reduceBEq, Nat.reduceLT, el], by simp only [tmset_self, tmset_ne, List.length_set, Nat.reduceBEq, Nat.reduceLT, el, e1, sumW]⟩
  case pos =>
  have l1 : decide ((j : Int) < 21) = true := by rw [decide_eq_true_eq]; omega
  repeat' first | (simp only [op_lenS, lenSV_str, op_lenV, lenV_slice, op_toInt, toIntV_int, op_iaddrS, RetK_inv, RetK_inv_exit, RetK_inv_ret, Nat.add_assoc, Nat.reduceEqDiff, Nat.reduceBEq, Nat.reduceBNe, Nat.le_min, Nat.le_add_right, Nat.min_self, Int.reduceBEq, Int.reduceBNe, Int.reduceLT, Int.reduceLE, Int.reduceEq, beq_self_eq_true, bne_self_eq_false, Bool.not_true, Bool.not_false, decide_true, decide_false, decide_eq_true_eq, Bool.and_eq_true, List.mapM_cons, List.mapM_nil, Option.bind_eq_bind, Option.pure_def, aeqK_agg, aeqK_scal, leavesK_nil, leavesK_cons, leafK_i, leafK_b, leafK_s, DrawK_nil, DrawK_cons, DrawK_guard, DResK_some, DGuardK_tt, DGuardK_ff, DGuardK_tf, DGuardK_ft, DGuardK_u, kept_load, Kept, KeptOne, closeOp, CO.quiet, CO.reads, CodeK_seq, CodeK_region, CodeK_skip, CodeK_ret, CodeK_exit, CodeK_cond, CodeK_block, CondK_true, CondK_false, RunK_cons, RunK_nil, RunK_guard, GuardK_tt, GuardK_ff, GuardK_tf, GuardK_ft, GuardK_u, ResK_some, RetK_nil, RetK_seq, RetK_seq_exit, RetK_seq_ret, RetK_block, RetK_block_ret, RetK_block_exit, RetK_block_exit_ne, op_mv, op_un, op_bin, op_load, loadV_ptr, op_faddr, faddrV_ptr, op_pick, pickV_true, pickV_false, pickV_bool, pickV_same, op_box, boxV_agg, op_call, op_build, op_ext, op_alloc, op_store, storeV_ptr, List.all_cons, List.all_nil, AV.one, AV.cells, Bool.and_self, Bool.and_true, Bool.true_and, put, CA.ev, List.set_cons_zero, List.set_cons_succ, List.getD_cons_zero, List.getD_cons_succ, abin, aint, aun, isShift, Option.map_some, Option.bind_some, List.map_cons, List.map_nil, Hp.n_withLow, Hp.n_push, Hp.n_set, Hp.low_withLow, Hp.low_push, Hp.low_set, Hp.get_push, Hp.get_set, Hp.get_withLow, readVar, readCell, readCells, writeCells, cut, fillA, Bool.false_eq_true, if_false, if_true, reduceIte, List.getElem?_cons_zero, List.getElem?_cons_succ, Nat.zero_add, Nat.add_zero, Nat.reduceAdd, Nat.reduceSub, Nat.reduceLT, Nat.reduceLeDiff, Nat.reduceEqDiff, List.length_cons, List.length_nil, List.take_succ_cons, List.take_zero, List.drop_zero, List.drop_succ_cons, List.cons_append, List.nil_append, List.append_nil, DoneK, resAll, resOne, AV.under, AV.unders, and_true, true_and, and_self, or_true, true_or, cond_true, cond_false, Nat.le_refl, Nat.add_eq_left, Nat.left_eq_add, Nat.add_right_cancel_iff, Nat.add_left_cancel_iff, el, e1, e2, e3, l1, tmset_self, tmset_ne, List.length_set, Nat.reduceBEq, Nat.reduceLT, *]) | (refine GuardK_split (fun hb => ?_) (fun hb => ?_)) | (refine CondK_split (fun hb => ?_) (fun hb => ?_)) | (refine CodeK_regionD _ ?_) | (refine DGuardK_split (fun hb => ?_) (fun hb => ?_))
  refine CodeK_loop (CnM h0 i j) 12 ?_ ?_
  · exact ⟨by simp only [List.length_set, el], hg, by simp only [tmset_self, tmset_ne, List.length_set, Nat.reduceBEq, Nat.reduceLT, el, e2], by simp only [tmset_self, tmset_ne, List.length_set, Nat.reduceBEq, Nat.reduceLT, el, e3], 0, by omega, by omega, by simp only [tmset_self, tmset_ne, List.length_set, Nat.reduceBEq, Nat.reduceLT, el]; rfl, by simp only [tmset_self, tmset_ne, List.length_set, Nat.reduceBEq, Nat.reduceLT, el, e1]; rfl⟩
  clear el e1 e2 e3 l1 I hg
  intro n3 tm h' I
  obtain ⟨k, hn3, hk, e4, e1⟩ := I.st
  have el := I.len
  have hg := I.grown
  have e2 := I.t2
  have e3 := I.t3
  have bM := sumM_le i j k
  by_cases hlt3 : k < 12
  case neg =>
    obtain rfl : k = 12 := by omega
    have l1 : decide (((12 : Nat) : Int) < 12) = false := by decide
    have w1 : IntKind.wrap .i64 ((j : Int) + 1) = ((j + 1 : Nat) : Int) := by rw [wrap_i64 (by omega) (by omega)]; omega
    repeat' first | (simp only [op_lenS, lenSV_str, op_lenV, lenV_slice, op_toInt, toIntV_int, op_iaddrS, RetK_inv, RetK_inv_exit, RetK_inv_ret, Nat.add_assoc, Nat.reduceEqDiff, Nat.reduceBEq, Nat.reduceBNe, Nat.le_min, Nat.le_add_right, Nat.min_self, Int.reduceBEq, Int.reduceBNe, Int.reduceLT, Int.reduceLE, Int.reduceEq, beq_self_eq_true, bne_self_eq_false, Bool.not_true, Bool.not_false, decide_true, decide_false, decide_eq_true_eq, Bool.and_eq_true, List.mapM_cons, List.mapM_nil, Option.bind_eq_bind, Option.pure_def, aeqK_agg, aeqK_scal, leavesK_nil, leavesK_cons, leafK_i, leafK_b, leafK_s, DrawK_nil, DrawK_cons, DrawK_guard, DResK_some, DGuardK_tt, DGuardK_ff, DGuardK_tf, DGuardK_ft, DGuardK_u, kept_load, Kept, KeptOne, closeOp, CO.quiet, CO.reads, CodeK_seq, CodeK_region, CodeK_skip, CodeK_ret, CodeK_exit, CodeK_cond, CodeK_block, CondK_true, CondK_false, RunK_cons, RunK_nil, RunK_guard, GuardK_tt, GuardK_ff, GuardK_tf, GuardK_ft, GuardK_u, ResK_some, RetK_nil, RetK_seq, RetK_seq_exit, RetK_seq_ret, RetK_block, RetK_block_ret, RetK_block_exit, RetK_block_exit_ne, op_mv, op_un, op_bin, op_load, loadV_ptr, op_faddr, faddrV_ptr, op_pick, pickV_true, pickV_false, pickV_bool, pickV_same, op_box, boxV_agg, op_call, op_build, op_ext, op_alloc, op_store, storeV_ptr, List.all_cons, List.all_nil, AV.one, AV.cells, Bool.and_self, Bool.and_true, Bool.true_and, put, CA.ev, List.set_cons_zero, List.set_cons_succ, List.getD_cons_zero, List.getD_cons_succ, abin, aint, aun, isShift, Option.map_some, Option.bind_some, List.map_cons, List.map_nil, Hp.n_withLow, Hp.n_push, Hp.n_set, Hp.low_withLow, Hp.low_push, Hp.low_set, Hp.get_push, Hp.get_set, Hp.get_withLow, readVar, readCell, readCells, writeCells, cut, fillA, Bool.false_eq_true, if_false, if_true, reduceIte, List.getElem?_cons_zero, List.getElem?_cons_succ, Nat.zero_add, Nat.add_zero, Nat.reduceAdd, Nat.reduceSub, Nat.reduceLT, Nat.reduceLeDiff, Nat.reduceEqDiff, List.length_cons, List.length_nil, List.take_succ_cons, List.take_zero, List.drop_zero, List.drop_succ_cons, List.cons_append, List.nil_append, List.append_nil, DoneK, resAll, resOne, AV.under, AV.unders, and_true, true_and, and_self, or_true, true_or, cond_true, cond_false, Nat.le_refl, Nat.add_eq_left, Nat.left_eq_add, Nat.add_right_cancel_iff, Nat.add_left_cancel_iff, el, e1, e2, e3, e4, l1, w1, tmset_self, tmset_ne, List.length_set, Nat.reduceBEq, Nat.reduceLT, *]) | (refine GuardK_split (fun hb => ?_) (fun hb => ?_)) | (refine CondK_split (fun hb => ?_) (fun hb => ?_)) | (refine CodeK_regionD _ ?_) | (refine DGuardK_split (fun hb => ?_) (fun hb => ?_))
    exact ⟨21 - (j + 1), by omega, by simp only [List.length_set, el], hg, by simp only [tmset_self, tmset_ne, List.length_set, Nat.reduceBEq, Nat.reduceLT, el, e2], j + 1, rfl, by omega, by simp only [tmset_self, tmset_ne, List.length_set, Nat.reduceBEq, Nat.reduceLT, el], by simp only [tmset_self, tmset_ne, List.length_set, Nat.reduceBEq, Nat.reduceLT, el, e1, sumV]⟩
  case pos =>
  have l1 : decide ((k : Int) < 12) = true := by rw [decide_eq_true_eq]; omega
  have w1 : IntKind.wrap .i64 ((k : Int) + 1) = ((k + 1 : Nat) : Int) := by rw [wrap_i64 (by omega) (by omega)]; omega
  have u1 := wrap_u8 (n := i) (by omega)
  have u2 := wrap_u8 (n := j) (by omega)
  have u3 := wrap_u8 (n := k) (by omega)
  have c1 := uses_spec hu (j : Int) (k : Int)
  have bI := item_le i j k
  have hI : item i j k = fieldsF (i : Int) (j : Int) (k : Int) (if uC (j : Int) = true then 1 else 0) (if uN (j : Int) = true then [97] else []) := rfl
  have o0 : ∀ a b c d e f g i y : AV, Fs.over [a, b, c, d, e, f, g, i] 0 [y] = [y, b, c, d, e, f, g, i] := fun _ _ _ _ _ _ _ _ _ => rfl
  have o1 : ∀ a b c d e f g i y : AV, Fs.over [a, b, c, d, e, f, g, i] 1 [y] = [a, y, c, d, e, f, g, i] := fun _ _ _ _ _ _ _ _ _ => rfl
  have o2 : ∀ a b c d e f g i y : AV, Fs.over [a, b, c, d, e, f, g, i] 2 [y] = [a, b, y, d, e, f, g, i] := fun _ _ _ _ _ _ _ _ _ => rfl
  have o3 : ∀ a b c d e f g i y : AV, Fs.over [a, b, c, d, e, f, g, i] 3 [y] = [a, b, c, y, e, f, g, i] := fun _ _ _ _ _ _ _ _ _ => rfl
  have o7 : ∀ a b c d e f g i y : AV, Fs.over [a, b, c, d, e, f, g, i] 7 [y] = [a, b, c, d, e, f, g, y] := fun _ _ _ _ _ _ _ _ _ => rfl
  have o8 : ∀ a b c d e f g i a' b' c' d' e' f' g' i' : AV, Fs.over [a, b, c, d, e, f, g, i] 0 [a', b', c', d', e', f', g', i'] = [a', b', c', d', e', f', g', i'] := fun _ _ _ _ _ _ _ _ _ _ _ _ _ _ _ _ => rfl
  have hhn := hg.1
  have hF' := fun (c : Int) (nm : List UInt8) => hF (i : Int) (j : Int) (k : Int) c nm
  unfold part at hF'
  have w2 : IntKind.wrap .i64 (((sumW i + (sumV i j + sumM i j k) : Nat) : Int) + ((item i j k : Nat) : Int)) = ((sumW i + (sumV i j + (sumM i j k + item i j k)) : Nat) : Int) := by rw [wrap_i64 (by omega) (by omega)]; omega
  cases hC : uC (j : Int) <;> cases hN : uN (j : Int)
  all_goals (
    rw [hC, hN] at hI
    simp only [Bool.false_eq_true, if_false, if_true] at hI
    rw [hI] at w2
    repeat' first | (simp only [op_lenS, lenSV_str, op_lenV, lenV_slice, op_toInt, toIntV_int, op_iaddrS, RetK_inv, RetK_inv_exit, RetK_inv_ret, Nat.add_assoc, Nat.reduceEqDiff, Nat.reduceBEq, Nat.reduceBNe, Nat.le_min, Nat.le_add_right, Nat.min_self, Int.reduceBEq, Int.reduceBNe, Int.reduceLT, Int.reduceLE, Int.reduceEq, beq_self_eq_true, bne_self_eq_false, Bool.not_true, Bool.not_false, decide_true, decide_false, decide_eq_true_eq, Bool.and_eq_true, List.mapM_cons, List.mapM_nil, Option.bind_eq_bind, Option.pure_def, aeqK_agg, aeqK_scal, leavesK_nil, leavesK_cons, leafK_i, leafK_b, leafK_s, DrawK_nil, DrawK_cons, DrawK_guard, DResK_some, DGuardK_tt, DGuardK_ff, DGuardK_tf, DGuardK_ft, DGuardK_u, kept_load, Kept, KeptOne, closeOp, CO.quiet, CO.reads, CodeK_seq, CodeK_region, CodeK_skip, CodeK_ret, CodeK_exit, CodeK_cond, CodeK_block, CondK_true, CondK_false, RunK_cons, RunK_nil, RunK_guard, GuardK_tt, GuardK_ff, GuardK_tf, GuardK_ft, GuardK_u, ResK_some, RetK_nil, RetK_seq, RetK_seq_exit, RetK_seq_ret, RetK_block, RetK_block_ret, RetK_block_exit, RetK_block_exit_ne, op_mv, op_un, op_bin, op_load, loadV_ptr, op_faddr, faddrV_ptr, op_pick, pickV_true, pickV_false, pickV_bool, pickV_same, op_box, boxV_agg, op_call, op_build, op_ext, op_alloc, op_store, storeV_ptr, List.all_cons, List.all_nil, AV.one, AV.cells, Bool.and_self, Bool.and_true, Bool.true_and, put, CA.ev, List.set_cons_zero, List.set_cons_succ, List.getD_cons_zero, List.getD_cons_succ, abin, aint, aun, isShift, Option.map_some, Option.bind_some, List.map_cons, List.map_nil, Hp.n_withLow, Hp.n_push, Hp.n_set, Hp.low_withLow, Hp.low_push, Hp.low_set, Hp.get_push, Hp.get_set, Hp.get_withLow, readVar, readCell, readCells, writeCells, cut, fillA, Bool.false_eq_true, if_false, if_true, reduceIte, List.getElem?_cons_zero, List.getElem?_cons_succ, Nat.zero_add, Nat.add_zero, Nat.reduceAdd, Nat.reduceSub, Nat.reduceLT, Nat.reduceLeDiff, Nat.reduceEqDiff, List.length_cons, List.length_nil, List.take_succ_cons, List.take_zero, List.drop_zero, List.drop_succ_cons, List.cons_append, List.nil_append, List.append_nil, DoneK, resAll, resOne, AV.under, AV.unders, and_true, true_and, and_self, or_true, true_or, cond_true, cond_false, Nat.le_refl, Nat.add_eq_left, Nat.left_eq_add, Nat.add_right_cancel_iff, Nat.add_left_cancel_iff, el, e1, e2, e3, e4, l1, w1, w2, u1, u2, u3, c1, hC, hN, hF', o0, o1, o2, o3, o7, o8, tmset_self, tmset_ne, List.length_set, Nat.reduceBEq, Nat.reduceLT, *]) | (refine GuardK_split (fun hb => ?_) (fun hb => ?_)) | (refine CondK_split (fun hb => ?_) (fun hb => ?_)) | (refine CodeK_regionD _ ?_) | (refine DGuardK_split (fun hb => ?_) (fun hb => ?_))
    refine ⟨12 - (k + 1), by omega, by simp only [List.length_set, el], ?_, by simp only [tmset_self, tmset_ne, List.length_set, Nat.reduceBEq, Nat.reduceLT, el, e2], by simp only [tmset_self, tmset_ne, List.length_set, Nat.reduceBEq, Nat.reduceLT, el, e3], k + 1, rfl, by omega, by simp only [tmset_self, tmset_ne, List.length_set, Nat.reduceBEq, Nat.reduceLT, el], by simp only [tmset_self, tmset_ne, List.length_set, Nat.reduceBEq, Nat.reduceLT, el, sumM, hI]⟩
    first
      | exact ((hg.push _).set (by simpa using hhn) _)
      | exact (((hg.push _).set (by simpa using hhn) _).set (by simpa using hhn) _)
      | exact ((((hg.push _).set (by simpa using hhn) _).set (by simpa using hhn) _).set (by simpa using hhn) _))
end Go.Proofs.Ef
