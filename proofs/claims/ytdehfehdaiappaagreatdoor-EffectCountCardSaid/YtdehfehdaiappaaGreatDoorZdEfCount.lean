/- How many parts may be that differ in Suit, Trait and Mark alone. -/
import Derived.Test.YtdehfehdaiappaaGreatDoorZdEfBase
namespace Go.Proofs.Ef
open Go Go.Fs
set_option linter.unusedSimpArgs false
set_option linter.unusedVariables false
variable {orc : Orc}
def cf9 : CF := ⟨34, [(.tmp 2)], (.seq (.region [⟨(some 1), (.box (.t 0)), none⟩, ⟨(some 2), (.mv (.c (.int .i64 0))), none⟩]) (.seq (.region [⟨(some 3), (.mv (.c (.int .i64 0))), none⟩]) (.seq (.seq (.region [⟨(some 4), (.mv (.c (.int .i64 0))), none⟩]) (.block 0 (.loop (.seq (.seq (.region [⟨(some 7), (.mv (.t 4)), none⟩, ⟨(some 8), (.bin .lss .other (.t 7) (.c (.int .i64 8))), none⟩]) (.cond (.t 8) .skip (.exit 0))) (.seq (.block 1 (.seq (.region [⟨(some 5), (.mv (.c (.int .i64 0))), none⟩]) (.block 2 (.loop (.seq (.seq (.region [⟨(some 11), (.mv (.t 5)), none⟩, ⟨(some 12), (.bin .lss .other (.t 11) (.c (.int .i64 10))), none⟩]) (.cond (.t 12) .skip (.exit 2))) (.seq (.block 3 (.seq (.region [⟨(some 6), (.mv (.c (.int .i64 0))), none⟩]) (.block 4 (.loop (.seq (.seq (.region [⟨(some 15), (.mv (.t 6)), none⟩, ⟨(some 16), (.bin .lss .other (.t 15) (.c (.int .i64 6))), none⟩]) (.cond (.t 16) .skip (.exit 4))) (.seq (.block 5 (.seq (.region [⟨(some 19), (.mv (.t 4)), none⟩, ⟨(some 20), (.toInt .u8 (.t 19)), none⟩, ⟨(some 21), (.mv (.t 5)), none⟩, ⟨(some 22), (.toInt .u8 (.t 21)), none⟩, ⟨(some 23), (.mv (.t 6)), none⟩, ⟨(some 24), (.toInt .u8 (.t 23)), none⟩, ⟨(some 25), (.faddr 4 (.t 1)), none⟩, ⟨none, (.store 1 (.t 25) (.t 20)), none⟩, ⟨(some 26), (.faddr 5 (.t 1)), none⟩, ⟨none, (.store 1 (.t 26) (.t 22)), none⟩, ⟨(some 27), (.faddr 6 (.t 1)), none⟩, ⟨none, (.store 1 (.t 27) (.t 24)), none⟩]) (.seq (.region [⟨(some 28), (.load (some 8) (.t 1)), none⟩, ⟨(some 29), (.call (.f 14) [(.t 28)]), none⟩, ⟨(some 30), (.bin .eql .other (.t 29) (.c (.int .i64 0))), none⟩]) (.cond (.t 30) (.region [⟨(some 31), (.mv (.t 3)), none⟩, ⟨(some 32), (.bin .add .other (.t 31) (.c (.int .i64 1))), none⟩, ⟨(some 3), (.mv (.t 32)), none⟩]) .skip)))) (.region [⟨(some 17), (.mv (.t 6)), none⟩, ⟨(some 18), (.bin .add .other (.t 17) (.c (.int .i64 1))), none⟩, ⟨(some 6), (.mv (.t 18)), none⟩]))))))) (.region [⟨(some 13), (.mv (.t 5)), none⟩, ⟨(some 14), (.bin .add .other (.t 13) (.c (.int .i64 1))), none⟩, ⟨(some 5), (.mv (.t 14)), none⟩]))))))) (.region [⟨(some 9), (.mv (.t 4)), none⟩, ⟨(some 10), (.bin .add .other (.t 9) (.c (.int .i64 1))), none⟩, ⟨(some 4), (.mv (.t 10)), none⟩])))))) (.seq (.region [⟨(some 33), (.mv (.t 3)), none⟩, ⟨(some 2), (.mv (.t 33)), none⟩]) .ret))))⟩
theorem tbl9 : tbl Tryz.prog 9 = some cf9 := by kernel_rfl

section
variable (w v m c : Int) (nm : List UInt8)
def one1 (s t k : Nat) : Nat := if chk w v m c (s : Int) (t : Int) (k : Int) nm = 0 then 1 else 0
def cntK (s t : Nat) : Nat → Nat
  | 0 => 0
  | k + 1 => cntK s t k + one1 w v m c nm s t k
def cntT (s : Nat) : Nat → Nat
  | 0 => 0
  | t + 1 => cntT s t + cntK w v m c nm s t 6
def cntS : Nat → Nat
  | 0 => 0
  | s + 1 => cntS s + cntT w v m c nm s 10
theorem cntK_le (s t : Nat) : ∀ k, cntK w v m c nm s t k ≤ k
  | 0 => Nat.le_refl _
  | k + 1 => by
    have := cntK_le s t k
    simp only [cntK, one1]
    split <;> omega
theorem cntT_le (s : Nat) : ∀ t, cntT w v m c nm s t ≤ 6 * t
  | 0 => Nat.le_refl _
  | t + 1 => by
    have h1 := cntT_le s t
    have h2 := cntK_le w v m c nm s t 6
    simp only [cntT]; omega
theorem cntS_le : ∀ s, cntS w v m c nm s ≤ 60 * s
  | 0 => Nat.le_refl _
  | s + 1 => by
    have h1 := cntS_le s
    have h2 := cntT_le w v m c nm s 10
    simp only [cntS]; omega

structure CnC (h0 : AH) (tm : List AV) (h : AH) : Prop where
  len : tm.length = 34
  t1 : tm.getD 1 AV.undef = .ptr (some (h0.n, 0))
  cells : ∃ s t k, h.get h0.n = some (.cells (part w v m c s t k nm) false)
  low : h0.n ≤ h.low
structure InvS (h0 : AH) (n : Nat) (tm : List AV) (h : AH) : Prop where
  com : CnC w v m c nm h0 tm h
  st : ∃ i : Nat, n = 8 - i ∧ i ≤ 8 ∧ tm.getD 4 AV.undef = .int .i64 (i : Int) ∧ tm.getD 3 AV.undef = .int .i64 ((cntS w v m c nm i : Nat) : Int)
structure InvT (h0 : AH) (i : Nat) (n : Nat) (tm : List AV) (h : AH) : Prop where
  com : CnC w v m c nm h0 tm h
  t4 : tm.getD 4 AV.undef = .int .i64 (i : Int)
  st : ∃ j : Nat, n = 10 - j ∧ j ≤ 10 ∧ tm.getD 5 AV.undef = .int .i64 (j : Int) ∧ tm.getD 3 AV.undef = .int .i64 ((cntS w v m c nm i + cntT w v m c nm i j : Nat) : Int)
structure InvK (h0 : AH) (i j : Nat) (n : Nat) (tm : List AV) (h : AH) : Prop where
  com : CnC w v m c nm h0 tm h
  t4 : tm.getD 4 AV.undef = .int .i64 (i : Int)
  t5 : tm.getD 5 AV.undef = .int .i64 (j : Int)
  st : ∃ k : Nat, n = 6 - k ∧ k ≤ 6 ∧ tm.getD 6 AV.undef = .int .i64 (k : Int) ∧ tm.getD 3 AV.undef = .int .i64 ((cntS w v m c nm i + cntT w v m c nm i j + cntK w v m c nm i j k : Nat) : Int)
end

theorem wrap_u8 {n : Nat} (h : n < 256) : IntKind.wrap .u8 (n : Int) = (n : Int) := by
  have e3 : IntKind.bits .u8 = 8 := rfl
  have e4 : IntKind.signed .u8 = false := rfl
  have hp : (2 : Int) ^ 8 = 256 := by decide
  unfold IntKind.wrap
  simp only [e3, e4, Bool.false_and, hp, Bool.false_eq_true, if_false]
  omega

set_option maxRecDepth 100000 in
set_option maxHeartbeats 16000000 in
theorem fields_spec (hf : orc 9 = none) (ho : ∀ f, f ∈ [14, 8, 40, 41, 42, 43, 44, 45, 46, 47, 76, 77, 78] → orc f = none) (ht : Trims orc) (w v m c s t k : Int) (nm : List UInt8) (h : AH) :
    acall orc T 9 [.agg (part w v m c s t k nm)] h = some (.int .i64 ((cntS w v m c nm 8 : Nat) : Int), h) := by
  refine acall_sym hf tbl9 ?_
  have hck := fun (s t k : Int) (hy : AH) => check_spec (orc := orc) ho ht w v m c s t k nm hy
  have o4 : ∀ a b c d e f g i y : AV, Fs.over [a, b, c, d, e, f, g, i] 4 [y] = [a, b, c, d, y, f, g, i] := fun _ _ _ _ _ _ _ _ _ => rfl
  have o5 : ∀ a b c d e f g i y : AV, Fs.over [a, b, c, d, e, f, g, i] 5 [y] = [a, b, c, d, e, y, g, i] := fun _ _ _ _ _ _ _ _ _ => rfl
  have o6 : ∀ a b c d e f g i y : AV, Fs.over [a, b, c, d, e, f, g, i] 6 [y] = [a, b, c, d, e, f, y, i] := fun _ _ _ _ _ _ _ _ _ => rfl
  unfold part
  dsimp only [List.length, List.replicate, List.append, List.cons_append, List.nil_append, Nat.reduceAdd, Nat.reduceSub]
  repeat' first | (simp only [op_lenS, lenSV_str, op_lenV, lenV_slice, op_toInt, toIntV_int, op_iaddrS, RetK_inv, RetK_inv_exit, RetK_inv_ret, Nat.add_assoc, Nat.reduceEqDiff, Nat.reduceBEq, Nat.reduceBNe, Nat.le_min, Nat.le_add_right, Nat.min_self, Int.reduceBEq, Int.reduceBNe, Int.reduceLT, Int.reduceLE, Int.reduceEq, beq_self_eq_true, bne_self_eq_false, Bool.not_true, Bool.not_false, decide_true, decide_false, decide_eq_true_eq, Bool.and_eq_true, List.mapM_cons, List.mapM_nil, Option.bind_eq_bind, Option.pure_def, aeqK_agg, aeqK_scal, leavesK_nil, leavesK_cons, leafK_i, leafK_b, leafK_s, DrawK_nil, DrawK_cons, DrawK_guard, DResK_some, DGuardK_tt, DGuardK_ff, DGuardK_tf, DGuardK_ft, DGuardK_u, kept_load, Kept, KeptOne, closeOp, CO.quiet, CO.reads, CodeK_seq, CodeK_region, CodeK_skip, CodeK_ret, CodeK_exit, CodeK_cond, CodeK_block, CondK_true, CondK_false, RunK_cons, RunK_nil, RunK_guard, GuardK_tt, GuardK_ff, GuardK_tf, GuardK_ft, GuardK_u, ResK_some, RetK_nil, RetK_seq, RetK_seq_exit, RetK_seq_ret, RetK_block, RetK_block_ret, RetK_block_exit, RetK_block_exit_ne, op_mv, op_un, op_bin, op_load, loadV_ptr, op_faddr, faddrV_ptr, op_pick, pickV_true, pickV_false, pickV_bool, pickV_same, op_box, boxV_agg, op_call, op_build, op_ext, op_alloc, op_store, storeV_ptr, List.all_cons, List.all_nil, AV.one, AV.cells, Bool.and_self, Bool.and_true, Bool.true_and, put, CA.ev, List.set_cons_zero, List.set_cons_succ, List.getD_cons_zero, List.getD_cons_succ, abin, aint, aun, isShift, Option.map_some, Option.bind_some, List.map_cons, List.map_nil, Hp.n_withLow, Hp.n_push, Hp.n_set, Hp.low_withLow, Hp.low_push, Hp.low_set, Hp.get_push, Hp.get_set, Hp.get_withLow, readVar, readCell, readCells, writeCells, cut, fillA, Bool.false_eq_true, if_false, if_true, reduceIte, List.getElem?_cons_zero, List.getElem?_cons_succ, Nat.zero_add, Nat.add_zero, Nat.reduceAdd, Nat.reduceSub, Nat.reduceLT, Nat.reduceLeDiff, Nat.reduceEqDiff, List.length_cons, List.length_nil, List.take_succ_cons, List.take_zero, List.drop_zero, List.drop_succ_cons, List.cons_append, List.nil_append, List.append_nil, DoneK, resAll, resOne, AV.under, AV.unders, and_true, true_and, and_self, or_true, true_or, cond_true, cond_false, Nat.le_refl, Nat.add_eq_left, Nat.left_eq_add, Nat.add_right_cancel_iff, Nat.add_left_cancel_iff, *]) | (refine GuardK_split (fun hb => ?_) (fun hb => ?_)) | (refine CondK_split (fun hb => ?_) (fun hb => ?_)) | (refine CodeK_regionD _ ?_) | (refine DGuardK_split (fun hb => ?_) (fun hb => ?_))
  refine CodeK_loop (InvS w v m c nm h) 8 ?_ ?_
  · exact ⟨⟨rfl, rfl, ⟨s, t, k, Hp.get_push_self _ _⟩, by simp⟩, 0, by omega, by omega, rfl, rfl⟩
  clear s t k
  intro n tm h' I
  obtain ⟨i, hn, hi, e4, e3⟩ := I.st
  have C := I.com
  have el := C.len
  have e1 := C.t1
  have hlow := C.low
  have bS := cntS_le w v m c nm i
  by_cases hlt : i < 8
  case neg =>
    obtain rfl : i = 8 := by omega
    have l1 : decide (((8 : Nat) : Int) < 8) = false := by decide
    repeat' first | (simp only [op_lenS, lenSV_str, op_lenV, lenV_slice, op_toInt, toIntV_int, op_iaddrS, RetK_inv, RetK_inv_exit, RetK_inv_ret, Nat.add_assoc, Nat.reduceEqDiff, Nat.reduceBEq, Nat.reduceBNe, Nat.le_min, Nat.le_add_right, Nat.min_self, Int.reduceBEq, Int.reduceBNe, Int.reduceLT, Int.reduceLE, Int.reduceEq, beq_self_eq_true, bne_self_eq_false, Bool.not_true, Bool.not_false, decide_true, decide_false, decide_eq_true_eq, Bool.and_eq_true, List.mapM_cons, List.mapM_nil, Option.bind_eq_bind, Option.pure_def, aeqK_agg, aeqK_scal, leavesK_nil, leavesK_cons, leafK_i, leafK_b, leafK_s, DrawK_nil, DrawK_cons, DrawK_guard, DResK_some, DGuardK_tt, DGuardK_ff, DGuardK_tf, DGuardK_ft, DGuardK_u, kept_load, Kept, KeptOne, closeOp, CO.quiet, CO.reads, CodeK_seq, CodeK_region, CodeK_skip, CodeK_ret, CodeK_exit, CodeK_cond, CodeK_block, CondK_true, CondK_false, RunK_cons, RunK_nil, RunK_guard, GuardK_tt, GuardK_ff, GuardK_tf, GuardK_ft, GuardK_u, ResK_some, RetK_nil, RetK_seq, RetK_seq_exit, RetK_seq_ret, RetK_block, RetK_block_ret, RetK_block_exit, RetK_block_exit_ne, op_mv, op_un, op_bin, op_load, loadV_ptr, op_faddr, faddrV_ptr, op_pick, pickV_true, pickV_false, pickV_bool, pickV_same, op_box, boxV_agg, op_call, op_build, op_ext, op_alloc, op_store, storeV_ptr, List.all_cons, List.all_nil, AV.one, AV.cells, Bool.and_self, Bool.and_true, Bool.true_and, put, CA.ev, List.set_cons_zero, List.set_cons_succ, List.getD_cons_zero, List.getD_cons_succ, abin, aint, aun, isShift, Option.map_some, Option.bind_some, List.map_cons, List.map_nil, Hp.n_withLow, Hp.n_push, Hp.n_set, Hp.low_withLow, Hp.low_push, Hp.low_set, Hp.get_push, Hp.get_set, Hp.get_withLow, readVar, readCell, readCells, writeCells, cut, fillA, Bool.false_eq_true, if_false, if_true, reduceIte, List.getElem?_cons_zero, List.getElem?_cons_succ, Nat.zero_add, Nat.add_zero, Nat.reduceAdd, Nat.reduceSub, Nat.reduceLT, Nat.reduceLeDiff, Nat.reduceEqDiff, List.length_cons, List.length_nil, List.take_succ_cons, List.take_zero, List.drop_zero, List.drop_succ_cons, List.cons_append, List.nil_append, List.append_nil, DoneK, resAll, resOne, AV.under, AV.unders, and_true, true_and, and_self, or_true, true_or, cond_true, cond_false, Nat.le_refl, Nat.add_eq_left, Nat.left_eq_add, Nat.add_right_cancel_iff, Nat.add_left_cancel_iff, el, e1, e3, e4, l1, hlow, tmset_self, tmset_ne, List.length_set, Nat.reduceBEq, Nat.reduceLT, *]) | (refine GuardK_split (fun hb => ?_) (fun hb => ?_)) | (refine CondK_split (fun hb => ?_) (fun hb => ?_)) | (refine CodeK_regionD _ ?_) | (refine DGuardK_split (fun hb => ?_) (fun hb => ?_))
  case pos =>
  have l1 : decide ((i : Int) < 8) = true := by rw [decide_eq_true_eq]; omega
  repeat' first | (simp only [op_lenS, lenSV_str, op_lenV, lenV_slice, op_toInt, toIntV_int, op_iaddrS, RetK_inv, RetK_inv_exit, RetK_inv_ret, Nat.add_assoc, Nat.reduceEqDiff, Nat.reduceBEq, Nat.reduceBNe, Nat.le_min, Nat.le_add_right, Nat.min_self, Int.reduceBEq, Int.reduceBNe, Int.reduceLT, Int.reduceLE, Int.reduceEq, beq_self_eq_true, bne_self_eq_false, Bool.not_true, Bool.not_false, decide_true, decide_false, decide_eq_true_eq, Bool.and_eq_true, List.mapM_cons, List.mapM_nil, Option.bind_eq_bind, Option.pure_def, aeqK_agg, aeqK_scal, leavesK_nil, leavesK_cons, leafK_i, leafK_b, leafK_s, DrawK_nil, DrawK_cons, DrawK_guard, DResK_some, DGuardK_tt, DGuardK_ff, DGuardK_tf, DGuardK_ft, DGuardK_u, kept_load, Kept, KeptOne, closeOp, CO.quiet, CO.reads, CodeK_seq, CodeK_region, CodeK_skip, CodeK_ret, CodeK_exit, CodeK_cond, CodeK_block, CondK_true, CondK_false, RunK_cons, RunK_nil, RunK_guard, GuardK_tt, GuardK_ff, GuardK_tf, GuardK_ft, GuardK_u, ResK_some, RetK_nil, RetK_seq, RetK_seq_exit, RetK_seq_ret, RetK_block, RetK_block_ret, RetK_block_exit, RetK_block_exit_ne, op_mv, op_un, op_bin, op_load, loadV_ptr, op_faddr, faddrV_ptr, op_pick, pickV_true, pickV_false, pickV_bool, pickV_same, op_box, boxV_agg, op_call, op_build, op_ext, op_alloc, op_store, storeV_ptr, List.all_cons, List.all_nil, AV.one, AV.cells, Bool.and_self, Bool.and_true, Bool.true_and, put, CA.ev, List.set_cons_zero, List.set_cons_succ, List.getD_cons_zero, List.getD_cons_succ, abin, aint, aun, isShift, Option.map_some, Option.bind_some, List.map_cons, List.map_nil, Hp.n_withLow, Hp.n_push, Hp.n_set, Hp.low_withLow, Hp.low_push, Hp.low_set, Hp.get_push, Hp.get_set, Hp.get_withLow, readVar, readCell, readCells, writeCells, cut, fillA, Bool.false_eq_true, if_false, if_true, reduceIte, List.getElem?_cons_zero, List.getElem?_cons_succ, Nat.zero_add, Nat.add_zero, Nat.reduceAdd, Nat.reduceSub, Nat.reduceLT, Nat.reduceLeDiff, Nat.reduceEqDiff, List.length_cons, List.length_nil, List.take_succ_cons, List.take_zero, List.drop_zero, List.drop_succ_cons, List.cons_append, List.nil_append, List.append_nil, DoneK, resAll, resOne, AV.under, AV.unders, and_true, true_and, and_self, or_true, true_or, cond_true, cond_false, Nat.le_refl, Nat.add_eq_left, Nat.left_eq_add, Nat.add_right_cancel_iff, Nat.add_left_cancel_iff, el, e1, e3, e4, l1, tmset_self, tmset_ne, List.length_set, Nat.reduceBEq, Nat.reduceLT, *]) | (refine GuardK_split (fun hb => ?_) (fun hb => ?_)) | (refine CondK_split (fun hb => ?_) (fun hb => ?_)) | (refine CodeK_regionD _ ?_) | (refine DGuardK_split (fun hb => ?_) (fun hb => ?_))
  refine CodeK_loop (InvT w v m c nm h i) 10 ?_ ?_
  · exact ⟨⟨by simp only [List.length_set, el], by simp only [tmset_self, tmset_ne, List.length_set, Nat.reduceBEq, Nat.reduceLT, el, e1], C.cells, C.low⟩, by simp only [tmset_self, tmset_ne, List.length_set, Nat.reduceBEq, Nat.reduceLT, el, e4], 0, by omega, by omega, by simp only [tmset_self, tmset_ne, List.length_set, Nat.reduceBEq, Nat.reduceLT, el]; rfl, by simp only [tmset_self, tmset_ne, List.length_set, Nat.reduceBEq, Nat.reduceLT, el, e3]; rfl⟩
  clear C el e1 hlow e3 e4 l1 I
  intro n2 tm h' I
  obtain ⟨j, hn2, hj, e5, e3⟩ := I.st
  have C := I.com
  have el := C.len
  have e1 := C.t1
  have hlow := C.low
  have e4 := I.t4
  have bT := cntT_le w v m c nm i j
  by_cases hlt2 : j < 10
  case neg =>
    obtain rfl : j = 10 := by omega
    have l1 : decide (((10 : Nat) : Int) < 10) = false := by decide
    have w1 : IntKind.wrap .i64 ((i : Int) + 1) = ((i + 1 : Nat) : Int) := by rw [wrap_i64 (by omega) (by omega)]; omega
    repeat' first | (simp only [op_lenS, lenSV_str, op_lenV, lenV_slice, op_toInt, toIntV_int, op_iaddrS, RetK_inv, RetK_inv_exit, RetK_inv_ret, Nat.add_assoc, Nat.reduceEqDiff, Nat.reduceBEq, Nat.reduceBNe, Nat.le_min, Nat.le_add_right, Nat.min_self, Int.reduceBEq, Int.reduceBNe, Int.reduceLT, Int.reduceLE, Int.reduceEq, beq_self_eq_true, bne_self_eq_false, Bool.not_true, Bool.not_false, decide_true, decide_false, decide_eq_true_eq, Bool.and_eq_true, List.mapM_cons, List.mapM_nil, Option.bind_eq_bind, Option.pure_def, aeqK_agg, aeqK_scal, leavesK_nil, leavesK_cons, leafK_i, leafK_b, leafK_s, DrawK_nil, DrawK_cons, DrawK_guard, DResK_some, DGuardK_tt, DGuardK_ff, DGuardK_tf, DGuardK_ft, DGuardK_u, kept_load, Kept, KeptOne, closeOp, CO.quiet, CO.reads, CodeK_seq, CodeK_region, CodeK_skip, CodeK_ret, CodeK_exit, CodeK_cond, CodeK_block, CondK_true, CondK_false, RunK_cons, RunK_nil, RunK_guard, GuardK_tt, GuardK_ff, GuardK_tf, GuardK_ft, GuardK_u, ResK_some, RetK_nil, RetK_seq, RetK_seq_exit, RetK_seq_ret, RetK_block, RetK_block_ret, RetK_block_exit, RetK_block_exit_ne, op_mv, op_un, op_bin, op_load, loadV_ptr, op_faddr, faddrV_ptr, op_pick, pickV_true, pickV_false, pickV_bool, pickV_same, op_box, boxV_agg, op_call, op_build, op_ext, op_alloc, op_store, storeV_ptr, List.all_cons, List.all_nil, AV.one, AV.cells, Bool.and_self, Bool.and_true, Bool.true_and, put, CA.ev, List.set_cons_zero, List.set_cons_succ, List.getD_cons_zero, List.getD_cons_succ, abin, aint, aun, isShift, Option.map_some, Option.bind_some, List.map_cons, List.map_nil, Hp.n_withLow, Hp.n_push, Hp.n_set, Hp.low_withLow, Hp.low_push, Hp.low_set, Hp.get_push, Hp.get_set, Hp.get_withLow, readVar, readCell, readCells, writeCells, cut, fillA, Bool.false_eq_true, if_false, if_true, reduceIte, List.getElem?_cons_zero, List.getElem?_cons_succ, Nat.zero_add, Nat.add_zero, Nat.reduceAdd, Nat.reduceSub, Nat.reduceLT, Nat.reduceLeDiff, Nat.reduceEqDiff, List.length_cons, List.length_nil, List.take_succ_cons, List.take_zero, List.drop_zero, List.drop_succ_cons, List.cons_append, List.nil_append, List.append_nil, DoneK, resAll, resOne, AV.under, AV.unders, and_true, true_and, and_self, or_true, true_or, cond_true, cond_false, Nat.le_refl, Nat.add_eq_left, Nat.left_eq_add, Nat.add_right_cancel_iff, Nat.add_left_cancel_iff, el, e1, e3, e4, e5, l1, w1, tmset_self, tmset_ne, List.length_set, Nat.reduceBEq, Nat.reduceLT, *]) | (refine GuardK_split (fun hb => ?_) (fun hb => ?_)) | (refine CondK_split (fun hb => ?_) (fun hb => ?_)) | (refine CodeK_regionD _ ?_) | (refine DGuardK_split (fun hb => ?_) (fun hb => ?_))
    exact ⟨8 - (i + 1), by omega, ⟨by simp only [List.length_set, el], by simp only [tmset_self, tmset_ne, List.length_set, Nat.reduceBEq, Nat.reduceLT, el, e1], C.cells, C.low⟩, i + 1, rfl, by omega, by simp only [tmset_self, tmset_ne, List.length_set, Nat.reduceBEq, Nat.reduceLT, el], by simp only [tmset_self, tmset_ne, List.length_set, Nat.reduceBEq, Nat.reduceLT, el, e3, cntS]⟩
  case pos =>
  have l1 : decide ((j : Int) < 10) = true := by rw [decide_eq_true_eq]; omega
  repeat' first | (simp only [op_lenS, lenSV_str, op_lenV, lenV_slice, op_toInt, toIntV_int, op_iaddrS, RetK_inv, RetK_inv_exit, RetK_inv_ret, Nat.add_assoc, Nat.reduceEqDiff, Nat.reduceBEq, Nat.reduceBNe, Nat.le_min, Nat.le_add_right, Nat.min_self, Int.reduceBEq, Int.reduceBNe, Int.reduceLT, Int.reduceLE, Int.reduceEq, beq_self_eq_true, bne_self_eq_false, Bool.not_true, Bool.not_false, decide_true, decide_false, decide_eq_true_eq, Bool.and_eq_true, List.mapM_cons, List.mapM_nil, Option.bind_eq_bind, Option.pure_def, aeqK_agg, aeqK_scal, leavesK_nil, leavesK_cons, leafK_i, leafK_b, leafK_s, DrawK_nil, DrawK_cons, DrawK_guard, DResK_some, DGuardK_tt, DGuardK_ff, DGuardK_tf, DGuardK_ft, DGuardK_u, kept_load, Kept, KeptOne, closeOp, CO.quiet, CO.reads, CodeK_seq, CodeK_region, CodeK_skip, CodeK_ret, CodeK_exit, CodeK_cond, CodeK_block, CondK_true, CondK_false, RunK_cons, RunK_nil, RunK_guard, GuardK_tt, GuardK_ff, GuardK_tf, GuardK_ft, GuardK_u, ResK_some, RetK_nil, RetK_seq, RetK_seq_exit, RetK_seq_ret, RetK_block, RetK_block_ret, RetK_block_exit, RetK_block_exit_ne, op_mv, op_un, op_bin, op_load, loadV_ptr, op_faddr, faddrV_ptr, op_pick, pickV_true, pickV_false, pickV_bool, pickV_same, op_box, boxV_agg, op_call, op_build, op_ext, op_alloc, op_store, storeV_ptr, List.all_cons, List.all_nil, AV.one, AV.cells, Bool.and_self, Bool.and_true, Bool.true_and, put, CA.ev, List.set_cons_zero, List.set_cons_succ, List.getD_cons_zero, List.getD_cons_succ, abin, aint, aun, isShift, Option.map_some, Option.bind_some, List.map_cons, List.map_nil, Hp.n_withLow, Hp.n_push, Hp.n_set, Hp.low_withLow, Hp.low_push, Hp.low_set, Hp.get_push, Hp.get_set, Hp.get_withLow, readVar, readCell, readCells, writeCells, cut, fillA, Bool.false_eq_true, if_false, if_true, reduceIte, List.getElem?_cons_zero, List.getElem?_cons_succ, Nat.zero_add, Nat.add_zero, Nat.reduceAdd, Nat.reduceSub, Nat.reduceLT, Nat.reduceLeDiff, Nat.reduceEqDiff, List.length_cons, List.length_nil, List.take_succ_cons, List.take_zero, List.drop_zero, List.drop_succ_cons, List.cons_append, List.nil_append, List.append_nil, DoneK, resAll, resOne, AV.under, AV.unders, and_true, true_and, and_self, or_true, true_or, cond_true, cond_false, Nat.le_refl, Nat.add_eq_left, Nat.left_eq_add, Nat.add_right_cancel_iff, Nat.add_left_cancel_iff, el, e1, e3, e4, e5, l1, tmset_self, tmset_ne, List.length_set, Nat.reduceBEq, Nat.reduceLT, *]) | (refine GuardK_split (fun hb => ?_) (fun hb => ?_)) | (refine CondK_split (fun hb => ?_) (fun hb => ?_)) | (refine CodeK_regionD _ ?_) | (refine DGuardK_split (fun hb => ?_) (fun hb => ?_))
  refine CodeK_loop (InvK w v m c nm h i j) 6 ?_ ?_
  · exact ⟨⟨by simp only [List.length_set, el], by simp only [tmset_self, tmset_ne, List.length_set, Nat.reduceBEq, Nat.reduceLT, el, e1], C.cells, C.low⟩, by simp only [tmset_self, tmset_ne, List.length_set, Nat.reduceBEq, Nat.reduceLT, el, e4], by simp only [tmset_self, tmset_ne, List.length_set, Nat.reduceBEq, Nat.reduceLT, el, e5], 0, by omega, by omega, by simp only [tmset_self, tmset_ne, List.length_set, Nat.reduceBEq, Nat.reduceLT, el]; rfl, by simp only [tmset_self, tmset_ne, List.length_set, Nat.reduceBEq, Nat.reduceLT, el, e3]; rfl⟩
  clear C el e1 hlow e3 e4 e5 l1 I
  intro n3 tm h' I
  obtain ⟨k, hn3, hk, e6, e3⟩ := I.st
  have C := I.com
  have el := C.len
  have e1 := C.t1
  have hlow := C.low
  have e4 := I.t4
  have e5 := I.t5
  obtain ⟨s0, t0, k0, hg⟩ := C.cells
  unfold part at hg
  have bK := cntK_le w v m c nm i j k
  by_cases hlt3 : k < 6
  case neg =>
    obtain rfl : k = 6 := by omega
    have l1 : decide (((6 : Nat) : Int) < 6) = false := by decide
    have w1 : IntKind.wrap .i64 ((j : Int) + 1) = ((j + 1 : Nat) : Int) := by rw [wrap_i64 (by omega) (by omega)]; omega
    repeat' first | (simp only [op_lenS, lenSV_str, op_lenV, lenV_slice, op_toInt, toIntV_int, op_iaddrS, RetK_inv, RetK_inv_exit, RetK_inv_ret, Nat.add_assoc, Nat.reduceEqDiff, Nat.reduceBEq, Nat.reduceBNe, Nat.le_min, Nat.le_add_right, Nat.min_self, Int.reduceBEq, Int.reduceBNe, Int.reduceLT, Int.reduceLE, Int.reduceEq, beq_self_eq_true, bne_self_eq_false, Bool.not_true, Bool.not_false, decide_true, decide_false, decide_eq_true_eq, Bool.and_eq_true, List.mapM_cons, List.mapM_nil, Option.bind_eq_bind, Option.pure_def, aeqK_agg, aeqK_scal, leavesK_nil, leavesK_cons, leafK_i, leafK_b, leafK_s, DrawK_nil, DrawK_cons, DrawK_guard, DResK_some, DGuardK_tt, DGuardK_ff, DGuardK_tf, DGuardK_ft, DGuardK_u, kept_load, Kept, KeptOne, closeOp, CO.quiet, CO.reads, CodeK_seq, CodeK_region, CodeK_skip, CodeK_ret, CodeK_exit, CodeK_cond, CodeK_block, CondK_true, CondK_false, RunK_cons, RunK_nil, RunK_guard, GuardK_tt, GuardK_ff, GuardK_tf, GuardK_ft, GuardK_u, ResK_some, RetK_nil, RetK_seq, RetK_seq_exit, RetK_seq_ret, RetK_block, RetK_block_ret, RetK_block_exit, RetK_block_exit_ne, op_mv, op_un, op_bin, op_load, loadV_ptr, op_faddr, faddrV_ptr, op_pick, pickV_true, pickV_false, pickV_bool, pickV_same, op_box, boxV_agg, op_call, op_build, op_ext, op_alloc, op_store, storeV_ptr, List.all_cons, List.all_nil, AV.one, AV.cells, Bool.and_self, Bool.and_true, Bool.true_and, put, CA.ev, List.set_cons_zero, List.set_cons_succ, List.getD_cons_zero, List.getD_cons_succ, abin, aint, aun, isShift, Option.map_some, Option.bind_some, List.map_cons, List.map_nil, Hp.n_withLow, Hp.n_push, Hp.n_set, Hp.low_withLow, Hp.low_push, Hp.low_set, Hp.get_push, Hp.get_set, Hp.get_withLow, readVar, readCell, readCells, writeCells, cut, fillA, Bool.false_eq_true, if_false, if_true, reduceIte, List.getElem?_cons_zero, List.getElem?_cons_succ, Nat.zero_add, Nat.add_zero, Nat.reduceAdd, Nat.reduceSub, Nat.reduceLT, Nat.reduceLeDiff, Nat.reduceEqDiff, List.length_cons, List.length_nil, List.take_succ_cons, List.take_zero, List.drop_zero, List.drop_succ_cons, List.cons_append, List.nil_append, List.append_nil, DoneK, resAll, resOne, AV.under, AV.unders, and_true, true_and, and_self, or_true, true_or, cond_true, cond_false, Nat.le_refl, Nat.add_eq_left, Nat.left_eq_add, Nat.add_right_cancel_iff, Nat.add_left_cancel_iff, el, e1, e3, e4, e5, e6, l1, w1, tmset_self, tmset_ne, List.length_set, Nat.reduceBEq, Nat.reduceLT, *]) | (refine GuardK_split (fun hb => ?_) (fun hb => ?_)) | (refine CondK_split (fun hb => ?_) (fun hb => ?_)) | (refine CodeK_regionD _ ?_) | (refine DGuardK_split (fun hb => ?_) (fun hb => ?_))
    exact ⟨10 - (j + 1), by omega, ⟨by simp only [List.length_set, el], by simp only [tmset_self, tmset_ne, List.length_set, Nat.reduceBEq, Nat.reduceLT, el, e1], C.cells, C.low⟩, by simp only [tmset_self, tmset_ne, List.length_set, Nat.reduceBEq, Nat.reduceLT, el, e4], j + 1, rfl, by omega, by simp only [tmset_self, tmset_ne, List.length_set, Nat.reduceBEq, Nat.reduceLT, el], by simp only [tmset_self, tmset_ne, List.length_set, Nat.reduceBEq, Nat.reduceLT, el, e3, cntT, Nat.add_assoc]⟩
  case pos =>
  have l1 : decide ((k : Int) < 6) = true := by rw [decide_eq_true_eq]; omega
  have w1 : IntKind.wrap .i64 ((k : Int) + 1) = ((k + 1 : Nat) : Int) := by rw [wrap_i64 (by omega) (by omega)]; omega
  have u1 := wrap_u8 (n := i) (by omega)
  have u2 := wrap_u8 (n := j) (by omega)
  have u3 := wrap_u8 (n := k) (by omega)
  have c1 := hck (i : Int) (j : Int) (k : Int)
  unfold part at c1
  have hlow2 : h.n ≤ min (min (min h'.low h.n) h.n) h.n := by omega
  cases hc : (chk w v m c (i : Int) (j : Int) (k : Int) nm == 0) with
  | true =>
    have hc' : chk w v m c (i : Int) (j : Int) (k : Int) nm = 0 := by simpa using hc
    repeat' first | (simp only [op_lenS, lenSV_str, op_lenV, lenV_slice, op_toInt, toIntV_int, op_iaddrS, RetK_inv, RetK_inv_exit, RetK_inv_ret, Nat.add_assoc, Nat.reduceEqDiff, Nat.reduceBEq, Nat.reduceBNe, Nat.le_min, Nat.le_add_right, Nat.min_self, Int.reduceBEq, Int.reduceBNe, Int.reduceLT, Int.reduceLE, Int.reduceEq, beq_self_eq_true, bne_self_eq_false, Bool.not_true, Bool.not_false, decide_true, decide_false, decide_eq_true_eq, Bool.and_eq_true, List.mapM_cons, List.mapM_nil, Option.bind_eq_bind, Option.pure_def, aeqK_agg, aeqK_scal, leavesK_nil, leavesK_cons, leafK_i, leafK_b, leafK_s, DrawK_nil, DrawK_cons, DrawK_guard, DResK_some, DGuardK_tt, DGuardK_ff, DGuardK_tf, DGuardK_ft, DGuardK_u, kept_load, Kept, KeptOne, closeOp, CO.quiet, CO.reads, CodeK_seq, CodeK_region, CodeK_skip, CodeK_ret, CodeK_exit, CodeK_cond, CodeK_block, CondK_true, CondK_false, RunK_cons, RunK_nil, RunK_guard, GuardK_tt, GuardK_ff, GuardK_tf, GuardK_ft, GuardK_u, ResK_some, RetK_nil, RetK_seq, RetK_seq_exit, RetK_seq_ret, RetK_block, RetK_block_ret, RetK_block_exit, RetK_block_exit_ne, op_mv, op_un, op_bin, op_load, loadV_ptr, op_faddr, faddrV_ptr, op_pick, pickV_true, pickV_false, pickV_bool, pickV_same, op_box, boxV_agg, op_call, op_build, op_ext, op_alloc, op_store, storeV_ptr, List.all_cons, List.all_nil, AV.one, AV.cells, Bool.and_self, Bool.and_true, Bool.true_and, put, CA.ev, List.set_cons_zero, List.set_cons_succ, List.getD_cons_zero, List.getD_cons_succ, abin, aint, aun, isShift, Option.map_some, Option.bind_some, List.map_cons, List.map_nil, Hp.n_withLow, Hp.n_push, Hp.n_set, Hp.low_withLow, Hp.low_push, Hp.low_set, Hp.get_push, Hp.get_set, Hp.get_withLow, readVar, readCell, readCells, writeCells, cut, fillA, Bool.false_eq_true, if_false, if_true, reduceIte, List.getElem?_cons_zero, List.getElem?_cons_succ, Nat.zero_add, Nat.add_zero, Nat.reduceAdd, Nat.reduceSub, Nat.reduceLT, Nat.reduceLeDiff, Nat.reduceEqDiff, List.length_cons, List.length_nil, List.take_succ_cons, List.take_zero, List.drop_zero, List.drop_succ_cons, List.cons_append, List.nil_append, List.append_nil, DoneK, resAll, resOne, AV.under, AV.unders, and_true, true_and, and_self, or_true, true_or, cond_true, cond_false, Nat.le_refl, Nat.add_eq_left, Nat.left_eq_add, Nat.add_right_cancel_iff, Nat.add_left_cancel_iff, el, e1, e3, e4, e5, e6, l1, w1, u1, u2, u3, hg, o4, o5, o6, c1, hc, tmset_self, tmset_ne, List.length_set, Nat.reduceBEq, Nat.reduceLT, *]) | (refine GuardK_split (fun hb => ?_) (fun hb => ?_)) | (refine CondK_split (fun hb => ?_) (fun hb => ?_)) | (refine CodeK_regionD _ ?_) | (refine DGuardK_split (fun hb => ?_) (fun hb => ?_))
    refine ⟨6 - (k + 1), by omega, ⟨by simp only [List.length_set, el], by simp only [tmset_self, tmset_ne, List.length_set, Nat.reduceBEq, Nat.reduceLT, el, e1], ⟨(i : Int), (j : Int), (k : Int), by simp only [Hp.get_set_self]; rfl⟩, by simp only [Hp.low_set]; omega⟩, by simp only [tmset_self, tmset_ne, List.length_set, Nat.reduceBEq, Nat.reduceLT, el, e4], by simp only [tmset_self, tmset_ne, List.length_set, Nat.reduceBEq, Nat.reduceLT, el, e5], k + 1, rfl, by omega, by simp only [tmset_self, tmset_ne, List.length_set, Nat.reduceBEq, Nat.reduceLT, el], ?_⟩
    simp only [tmset_self, tmset_ne, List.length_set, Nat.reduceBEq, Nat.reduceLT, el, cntK, one1, hc', if_true, Nat.add_assoc]
    congr 1
    rw [wrap_i64 (by omega) (by omega)]
    omega
  | false =>
    have hc' : ¬ chk w v m c (i : Int) (j : Int) (k : Int) nm = 0 := by simpa using hc
    repeat' first | (simp only [op_lenS, lenSV_str, op_lenV, lenV_slice, op_toInt, toIntV_int, op_iaddrS, RetK_inv, RetK_inv_exit, RetK_inv_ret, Nat.add_assoc, Nat.reduceEqDiff, Nat.reduceBEq, Nat.reduceBNe, Nat.le_min, Nat.le_add_right, Nat.min_self, Int.reduceBEq, Int.reduceBNe, Int.reduceLT, Int.reduceLE, Int.reduceEq, beq_self_eq_true, bne_self_eq_false, Bool.not_true, Bool.not_false, decide_true, decide_false, decide_eq_true_eq, Bool.and_eq_true, List.mapM_cons, List.mapM_nil, Option.bind_eq_bind, Option.pure_def, aeqK_agg, aeqK_scal, leavesK_nil, leavesK_cons, leafK_i, leafK_b, leafK_s, DrawK_nil, DrawK_cons, DrawK_guard, DResK_some, DGuardK_tt, DGuardK_ff, DGuardK_tf, DGuardK_ft, DGuardK_u, kept_load, Kept, KeptOne, closeOp, CO.quiet, CO.reads, CodeK_seq, CodeK_region, CodeK_skip, CodeK_ret, CodeK_exit, CodeK_cond, CodeK_block, CondK_true, CondK_false, RunK_cons, RunK_nil, RunK_guard, GuardK_tt, GuardK_ff, GuardK_tf, GuardK_ft, GuardK_u, ResK_some, RetK_nil, RetK_seq, RetK_seq_exit, RetK_seq_ret, RetK_block, RetK_block_ret, RetK_block_exit, RetK_block_exit_ne, op_mv, op_un, op_bin, op_load, loadV_ptr, op_faddr, faddrV_ptr, op_pick, pickV_true, pickV_false, pickV_bool, pickV_same, op_box, boxV_agg, op_call, op_build, op_ext, op_alloc, op_store, storeV_ptr, List.all_cons, List.all_nil, AV.one, AV.cells, Bool.and_self, Bool.and_true, Bool.true_and, put, CA.ev, List.set_cons_zero, List.set_cons_succ, List.getD_cons_zero, List.getD_cons_succ, abin, aint, aun, isShift, Option.map_some, Option.bind_some, List.map_cons, List.map_nil, Hp.n_withLow, Hp.n_push, Hp.n_set, Hp.low_withLow, Hp.low_push, Hp.low_set, Hp.get_push, Hp.get_set, Hp.get_withLow, readVar, readCell, readCells, writeCells, cut, fillA, Bool.false_eq_true, if_false, if_true, reduceIte, List.getElem?_cons_zero, List.getElem?_cons_succ, Nat.zero_add, Nat.add_zero, Nat.reduceAdd, Nat.reduceSub, Nat.reduceLT, Nat.reduceLeDiff, Nat.reduceEqDiff, List.length_cons, List.length_nil, List.take_succ_cons, List.take_zero, List.drop_zero, List.drop_succ_cons, List.cons_append, List.nil_append, List.append_nil, DoneK, resAll, resOne, AV.under, AV.unders, and_true, true_and, and_self, or_true, true_or, cond_true, cond_false, Nat.le_refl, Nat.add_eq_left, Nat.left_eq_add, Nat.add_right_cancel_iff, Nat.add_left_cancel_iff, el, e1, e3, e4, e5, e6, l1, w1, u1, u2, u3, hg, o4, o5, o6, c1, hc, tmset_self, tmset_ne, List.length_set, Nat.reduceBEq, Nat.reduceLT, *]) | (refine GuardK_split (fun hb => ?_) (fun hb => ?_)) | (refine CondK_split (fun hb => ?_) (fun hb => ?_)) | (refine CodeK_regionD _ ?_) | (refine DGuardK_split (fun hb => ?_) (fun hb => ?_))
    refine ⟨6 - (k + 1), by omega, ⟨by simp only [List.length_set, el], by simp only [tmset_self, tmset_ne, List.length_set, Nat.reduceBEq, Nat.reduceLT, el, e1], ⟨(i : Int), (j : Int), (k : Int), by simp only [Hp.get_set_self]; rfl⟩, by simp only [Hp.low_set]; omega⟩, by simp only [tmset_self, tmset_ne, List.length_set, Nat.reduceBEq, Nat.reduceLT, el, e4], by simp only [tmset_self, tmset_ne, List.length_set, Nat.reduceBEq, Nat.reduceLT, el, e5], k + 1, rfl, by omega, by simp only [tmset_self, tmset_ne, List.length_set, Nat.reduceBEq, Nat.reduceLT, el], ?_⟩
    simp only [tmset_self, tmset_ne, List.length_set, Nat.reduceBEq, Nat.reduceLT, el, e3, cntK, one1, hc', if_false, Nat.add_zero, Nat.add_assoc]

/-! ### The count, at once -/
def goodB (w v m c : Int) (nm : List UInt8) : Bool := !bad1 w v m && !bad2 w v m && aboutB w v m && !bad4 v c && !bad6 v nm
theorem chk_zero (w v m c s t k : Int) (nm : List UInt8) : (chk w v m c s t k nm = 0) ↔ (((goodB w v m c nm && withinB s (uS v m) 1 6) && withinB t (uT v m) 1 8) && withinB k (uM v) 1 4) = true := by
  unfold chk bad5 goodB
  generalize withinB s (uS v m) 1 6 = S
  generalize withinB t (uT v m) 1 8 = U
  generalize withinB k (uM v) 1 4 = M
  generalize bad1 w v m = b1
  generalize bad2 w v m = b2
  generalize aboutB w v m = A
  generalize bad4 v c = b4
  generalize bad6 v nm = b6
  revert S U M b1 b2 A b4 b6
  decide
def wc (g : Bool) (c : Nat) : Nat := if g = true then c else 0
theorem one1_eq (w v m c : Int) (nm : List UInt8) (s t k : Nat) : one1 w v m c nm s t k = wc (((goodB w v m c nm && withinB (s : Int) (uS v m) 1 6) && withinB (t : Int) (uT v m) 1 8) && withinB (k : Int) (uM v) 1 4) 1 := by
  unfold one1 wc
  simp only [chk_zero]
theorem wc_within (u : Bool) (lo hi : Int) (g : Bool) (x : Int) (c : Nat) : wc (g && withinB x u lo hi) c = if g = true then wc (withinB x u lo hi) c else 0 := by
  cases g <;> rfl
theorem cntK_eq (w v m c : Int) (nm : List UInt8) (s t : Nat) : cntK w v m c nm s t 6 = wc ((goodB w v m c nm && withinB (s : Int) (uS v m) 1 6) && withinB (t : Int) (uT v m) 1 8) (if uM v = true then 4 else 1) := by
  simp only [cntK, one1_eq]
  generalize ((goodB w v m c nm && withinB (s : Int) (uS v m) 1 6) && withinB (t : Int) (uT v m) 1 8) = g
  generalize uM v = u
  revert g u
  decide
theorem cntT_eq (w v m c : Int) (nm : List UInt8) (s : Nat) : cntT w v m c nm s 10 = wc (goodB w v m c nm && withinB (s : Int) (uS v m) 1 6) ((if uT v m = true then 8 else 1) * (if uM v = true then 4 else 1)) := by
  simp only [cntT, cntK_eq]
  generalize (goodB w v m c nm && withinB (s : Int) (uS v m) 1 6) = g
  generalize uT v m = u
  generalize uM v = x
  revert g u x
  decide
/-- How many parts may be, of these fields. -/
def fieldsF (w v m c : Int) (nm : List UInt8) : Nat := wc (goodB w v m c nm) ((if uS v m = true then 6 else 1) * ((if uT v m = true then 8 else 1) * (if uM v = true then 4 else 1)))
theorem cntS_eq (w v m c : Int) (nm : List UInt8) : cntS w v m c nm 8 = fieldsF w v m c nm := by
  unfold fieldsF
  simp only [cntS, cntT_eq]
  generalize goodB w v m c nm = g
  generalize uS v m = y
  generalize uT v m = u
  generalize uM v = x
  revert g y u x
  decide
end Go.Proofs.Ef
