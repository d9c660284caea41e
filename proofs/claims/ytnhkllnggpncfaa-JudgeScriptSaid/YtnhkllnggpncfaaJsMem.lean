/- The two memories, call by call. -/
import Derived.Test.YtnhkllnggpncfaaJsBase
namespace Go.Proofs.Js
open Go Go.Fs
set_option linter.unusedSimpArgs false
set_option linter.unusedVariables false
noncomputable abbrev T := tbl Try.prog
variable {orc : Orc}

/-- The program's memory: a box with a map. -/
structure RealM (h : AH) (own : Nat → Nat) (c r m : Nat) (E : Ent) : Prop where
  box : h.get r = some (.cells [.map (some m)] false)
  map : h.get m = some (.map (mes E))
  rn : r < h.n
  mn : m < h.n
  ro : own r = c
  mo : own m = c + 1

set_option maxRecDepth 100000 in
theorem realnew_spec (ho : orc 22 = none) (h : AH) : ∃ v h1, acall orc T 22 [] h = some (v, h1) ∧ (v = .ptr (some (h.n + 1, 0)) ∧ h1.n = h.n + 2 ∧ h1.get h.n = some (.map []) ∧ h1.get (h.n + 1) = some (.cells [.map (some h.n)] false) ∧ ∀ b, b < h.n → h1.get b = h.get b) := by
  refine acall_facts (R := fun v h1 => v = .ptr (some (h.n + 1, 0)) ∧ h1.n = h.n + 2 ∧ h1.get h.n = some (.map []) ∧ h1.get (h.n + 1) = some (.cells [.map (some h.n)] false) ∧ ∀ b, b < h.n → h1.get b = h.get b) ho tbl22 ?_
  dsimp only [List.length, List.replicate, List.append, List.cons_append, List.nil_append, Nat.reduceAdd, Nat.reduceSub]
  repeat' first | (simp only [op_lenS, lenSV_str, op_lenV, lenV_slice, op_toInt, toIntV_int, op_iaddrS, RetK_inv, RetK_inv_exit, RetK_inv_ret, Nat.add_assoc, Nat.reduceEqDiff, Nat.reduceBEq, Nat.reduceBNe, Nat.le_min, Nat.le_add_right, Nat.min_self, Int.reduceBEq, Int.reduceBNe, Int.reduceLT, Int.reduceLE, Int.reduceEq, beq_self_eq_true, bne_self_eq_false, Bool.not_true, Bool.not_false, decide_true, decide_false, decide_eq_true_eq, Bool.and_eq_true, List.mapM_cons, List.mapM_nil, Option.bind_eq_bind, Option.pure_def, aeqK_agg, aeqK_scal, leavesK_nil, leavesK_cons, leafK_i, leafK_b, leafK_s, DrawK_nil, DrawK_cons, DrawK_guard, DResK_some, DGuardK_tt, DGuardK_ff, DGuardK_tf, DGuardK_ft, DGuardK_u, kept_load, Kept, KeptOne, closeOp, CO.quiet, CO.reads, CodeK_seq, CodeK_region, CodeK_skip, CodeK_ret, CodeK_exit, CodeK_cond, CodeK_block, CondK_true, CondK_false, RunK_cons, RunK_nil, RunK_guard, GuardK_tt, GuardK_ff, GuardK_tf, GuardK_ft, GuardK_u, ResK_some, RetK_nil, RetK_seq, RetK_seq_exit, RetK_seq_ret, RetK_block, RetK_block_ret, RetK_block_exit, RetK_block_exit_ne, op_mv, op_un, op_bin, op_load, loadV_ptr, op_faddr, faddrV_ptr, op_pick, pickV_true, pickV_false, pickV_bool, pickV_same, op_box, boxV_agg, op_call, op_build, op_ext, op_alloc, op_store, storeV_ptr, List.all_cons, List.all_nil, AV.one, AV.cells, Bool.and_self, Bool.and_true, Bool.true_and, put, CA.ev, List.set_cons_zero, List.set_cons_succ, List.getD_cons_zero, List.getD_cons_succ, abin, aint, aun, isShift, Option.map_some, Option.bind_some, List.map_cons, List.map_nil, Hp.n_withLow, Hp.n_push, Hp.n_set, Hp.low_withLow, Hp.low_push, Hp.low_set, Hp.get_push, Hp.get_set, Hp.get_withLow, readVar, readCell, readCells, writeCells, over, cut, fillA, Bool.false_eq_true, if_false, if_true, reduceIte, List.getElem?_cons_zero, List.getElem?_cons_succ, Nat.zero_add, Nat.add_zero, Nat.reduceAdd, Nat.reduceSub, Nat.reduceLT, Nat.reduceLeDiff, Nat.reduceEqDiff, List.length_cons, List.length_nil, List.take_succ_cons, List.take_zero, List.drop_zero, List.drop_succ_cons, List.cons_append, List.nil_append, List.append_nil, DoneK, resAll, resOne, AV.under, AV.unders, and_true, true_and, and_self, or_true, true_or, cond_true, cond_false, Nat.le_refl, Nat.add_eq_left, Nat.left_eq_add, Nat.add_right_cancel_iff, Nat.add_left_cancel_iff, op_mkM, boxV_agg, Option.some.injEq, *]) | (refine GuardK_split (fun hb => ?_) (fun hb => ?_)) | (refine CondK_split (fun hb => ?_) (fun hb => ?_)) | (refine CodeK_regionD _ ?_) | (refine DGuardK_split (fun hb => ?_) (fun hb => ?_))
  refine ⟨_, rfl, ?_⟩
  rw [settle_new (by simp [AV.under])]
  refine ⟨rfl, by simp, ?_, ?_, fun b hb => ?_⟩
  · have n1 : ¬ h.n = h.n + 1 := by omega
    simp only [Hp.get_withLow, Hp.get_push, Hp.n_push, Hp.n_withLow, n1, if_false, if_true]
  · simp only [Hp.get_withLow, Hp.get_push, Hp.n_push, Hp.n_withLow, if_true]
  · have n1 : ¬ b = h.n := by omega
    have n2 : ¬ b = h.n + 1 := by omega
    simp only [Hp.get_withLow, Hp.get_push, Hp.n_push, Hp.n_withLow, n1, n2, if_false]

set_option maxRecDepth 100000 in
theorem refnew_spec (ho : orc 23 = none) (h : AH) : ∃ v h1, acall orc T 23 [] h = some (v, h1) ∧ (v = .ptr (some (h.n, 0)) ∧ h1.n = h.n + 1 ∧ h1.get h.n = some (.cells [.bool true, .slice none 0 (.exact 0), .slice none 0 (.exact 0)] false) ∧ ∀ b, b < h.n → h1.get b = h.get b) := by
  refine acall_facts (R := fun v h1 => v = .ptr (some (h.n, 0)) ∧ h1.n = h.n + 1 ∧ h1.get h.n = some (.cells [.bool true, .slice none 0 (.exact 0), .slice none 0 (.exact 0)] false) ∧ ∀ b, b < h.n → h1.get b = h.get b) ho tbl23 ?_
  dsimp only [List.length, List.replicate, List.append, List.cons_append, List.nil_append, Nat.reduceAdd, Nat.reduceSub]
  repeat' first | (simp only [op_lenS, lenSV_str, op_lenV, lenV_slice, op_toInt, toIntV_int, op_iaddrS, RetK_inv, RetK_inv_exit, RetK_inv_ret, Nat.add_assoc, Nat.reduceEqDiff, Nat.reduceBEq, Nat.reduceBNe, Nat.le_min, Nat.le_add_right, Nat.min_self, Int.reduceBEq, Int.reduceBNe, Int.reduceLT, Int.reduceLE, Int.reduceEq, beq_self_eq_true, bne_self_eq_false, Bool.not_true, Bool.not_false, decide_true, decide_false, decide_eq_true_eq, Bool.and_eq_true, List.mapM_cons, List.mapM_nil, Option.bind_eq_bind, Option.pure_def, aeqK_agg, aeqK_scal, leavesK_nil, leavesK_cons, leafK_i, leafK_b, leafK_s, DrawK_nil, DrawK_cons, DrawK_guard, DResK_some, DGuardK_tt, DGuardK_ff, DGuardK_tf, DGuardK_ft, DGuardK_u, kept_load, Kept, KeptOne, closeOp, CO.quiet, CO.reads, CodeK_seq, CodeK_region, CodeK_skip, CodeK_ret, CodeK_exit, CodeK_cond, CodeK_block, CondK_true, CondK_false, RunK_cons, RunK_nil, RunK_guard, GuardK_tt, GuardK_ff, GuardK_tf, GuardK_ft, GuardK_u, ResK_some, RetK_nil, RetK_seq, RetK_seq_exit, RetK_seq_ret, RetK_block, RetK_block_ret, RetK_block_exit, RetK_block_exit_ne, op_mv, op_un, op_bin, op_load, loadV_ptr, op_faddr, faddrV_ptr, op_pick, pickV_true, pickV_false, pickV_bool, pickV_same, op_box, boxV_agg, op_call, op_build, op_ext, op_alloc, op_store, storeV_ptr, List.all_cons, List.all_nil, AV.one, AV.cells, Bool.and_self, Bool.and_true, Bool.true_and, put, CA.ev, List.set_cons_zero, List.set_cons_succ, List.getD_cons_zero, List.getD_cons_succ, abin, aint, aun, isShift, Option.map_some, Option.bind_some, List.map_cons, List.map_nil, Hp.n_withLow, Hp.n_push, Hp.n_set, Hp.low_withLow, Hp.low_push, Hp.low_set, Hp.get_push, Hp.get_set, Hp.get_withLow, readVar, readCell, readCells, writeCells, over, cut, fillA, Bool.false_eq_true, if_false, if_true, reduceIte, List.getElem?_cons_zero, List.getElem?_cons_succ, Nat.zero_add, Nat.add_zero, Nat.reduceAdd, Nat.reduceSub, Nat.reduceLT, Nat.reduceLeDiff, Nat.reduceEqDiff, List.length_cons, List.length_nil, List.take_succ_cons, List.take_zero, List.drop_zero, List.drop_succ_cons, List.cons_append, List.nil_append, List.append_nil, DoneK, resAll, resOne, AV.under, AV.unders, and_true, true_and, and_self, or_true, true_or, cond_true, cond_false, Nat.le_refl, Nat.add_eq_left, Nat.left_eq_add, Nat.add_right_cancel_iff, Nat.add_left_cancel_iff, boxV_agg, Option.some.injEq, *]) | (refine GuardK_split (fun hb => ?_) (fun hb => ?_)) | (refine CondK_split (fun hb => ?_) (fun hb => ?_)) | (refine CodeK_regionD _ ?_) | (refine DGuardK_split (fun hb => ?_) (fun hb => ?_))
  refine ⟨_, rfl, ?_⟩
  rw [settle_new (by simp [AV.under])]
  refine ⟨rfl, by simp, ?_, fun b hb => ?_⟩
  · simp only [Hp.get_withLow, Hp.get_push, Hp.n_push, Hp.n_withLow, if_true]
  · have n1 : ¬ b = h.n := by omega
    simp only [Hp.get_withLow, Hp.get_push, Hp.n_push, Hp.n_withLow, n1, if_false]

/-- What Add answers. -/
def addA (f : List UInt8) (E : Ent) : AV := if 65536 < f.length then .tuple [.int .i64 0, .int .i64 3] else .tuple [.int .i64 ((findE f E + 1 : Nat) : Int), .int .i64 0]
/-- What is held behind it. -/
def addE (f : List UInt8) (E : Ent) : Ent := if 65536 < f.length then E else putE f (findE f E + 1) E

theorem len_gt {f : List UInt8} (hl : 65536 < f.length) : decide ((65536 : Int) < (f.length : Int)) = true := by simp; omega
theorem len_le {f : List UInt8} (hl : ¬ 65536 < f.length) : decide ((65536 : Int) < (f.length : Int)) = false := by simp; omega

set_option maxRecDepth 100000 in
set_option maxHeartbeats 4000000 in
theorem realadd_spec (ho : orc 24 = none) {h : AH} {own : Nat → Nat} {c r m : Nat} {E : Ent} (hm : RealM h own c r m E) (hE : E.length ≤ 400) (hb : ∀ e ∈ E, e.2 ≤ 400) (f : List UInt8) :
    ∃ v h1, acall orc T 24 [.ptr (some (r, 0)), .str f] h = some (v, h1) ∧ (v = addA f E ∧ h1.n = h.n ∧ h1.get m = some (.map (mes (addE f E))) ∧ ∀ b, b ≠ m → h1.get b = h.get b) := by
  refine acall_facts (R := fun v h1 => v = addA f E ∧ h1.n = h.n ∧ h1.get m = some (.map (mes (addE f E))) ∧ ∀ b, b ≠ m → h1.get b = h.get b) ho tbl24 ?_
  have g1 := hm.box
  have g2 := hm.map
  have hrn := hm.rn
  have hmn := hm.mn
  have hf := find_le (f := f) hb
  have w1 : IntKind.wrap .i64 ((findE f E : Int) + 1) = ((findE f E + 1 : Nat) : Int) := by rw [wrap_i64 (by omega) (by omega)]; omega
  have l2 : decide ((4096 : Int) ≤ (E.length : Int)) = false := by simp; omega
  have w2 : ∀ x : AV, x = x := fun _ => rfl
  unfold addA addE
  dsimp only [List.length, List.replicate, List.append, List.cons_append, List.nil_append, Nat.reduceAdd, Nat.reduceSub]
  generalize hz : ((findE f E : Int) == 0) = z
  by_cases hl : 65536 < f.length
  · have l1 := len_gt hl
    rw [if_pos hl, if_pos hl]
    repeat' first | (simp only [op_lenS, lenSV_str, op_lenV, lenV_slice, op_toInt, toIntV_int, op_iaddrS, RetK_inv, RetK_inv_exit, RetK_inv_ret, Nat.add_assoc, Nat.reduceEqDiff, Nat.reduceBEq, Nat.reduceBNe, Nat.le_min, Nat.le_add_right, Nat.min_self, Int.reduceBEq, Int.reduceBNe, Int.reduceLT, Int.reduceLE, Int.reduceEq, beq_self_eq_true, bne_self_eq_false, Bool.not_true, Bool.not_false, decide_true, decide_false, decide_eq_true_eq, Bool.and_eq_true, List.mapM_cons, List.mapM_nil, Option.bind_eq_bind, Option.pure_def, aeqK_agg, aeqK_scal, leavesK_nil, leavesK_cons, leafK_i, leafK_b, leafK_s, DrawK_nil, DrawK_cons, DrawK_guard, DResK_some, DGuardK_tt, DGuardK_ff, DGuardK_tf, DGuardK_ft, DGuardK_u, kept_load, Kept, KeptOne, closeOp, CO.quiet, CO.reads, CodeK_seq, CodeK_region, CodeK_skip, CodeK_ret, CodeK_exit, CodeK_cond, CodeK_block, CondK_true, CondK_false, RunK_cons, RunK_nil, RunK_guard, GuardK_tt, GuardK_ff, GuardK_tf, GuardK_ft, GuardK_u, ResK_some, RetK_nil, RetK_seq, RetK_seq_exit, RetK_seq_ret, RetK_block, RetK_block_ret, RetK_block_exit, RetK_block_exit_ne, op_mv, op_un, op_bin, op_load, loadV_ptr, op_faddr, faddrV_ptr, op_pick, pickV_true, pickV_false, pickV_bool, pickV_same, op_box, boxV_agg, op_call, op_build, op_ext, op_alloc, op_store, storeV_ptr, List.all_cons, List.all_nil, AV.one, AV.cells, Bool.and_self, Bool.and_true, Bool.true_and, put, CA.ev, List.set_cons_zero, List.set_cons_succ, List.getD_cons_zero, List.getD_cons_succ, abin, aint, aun, isShift, Option.map_some, Option.bind_some, List.map_cons, List.map_nil, Hp.n_withLow, Hp.n_push, Hp.n_set, Hp.low_withLow, Hp.low_push, Hp.low_set, Hp.get_push, Hp.get_set, Hp.get_withLow, readVar, readCell, readCells, writeCells, over, cut, fillA, Bool.false_eq_true, if_false, if_true, reduceIte, List.getElem?_cons_zero, List.getElem?_cons_succ, Nat.zero_add, Nat.add_zero, Nat.reduceAdd, Nat.reduceSub, Nat.reduceLT, Nat.reduceLeDiff, Nat.reduceEqDiff, List.length_cons, List.length_nil, List.take_succ_cons, List.take_zero, List.drop_zero, List.drop_succ_cons, List.cons_append, List.nil_append, List.append_nil, DoneK, resAll, resOne, AV.under, AV.unders, and_true, true_and, and_self, or_true, true_or, cond_true, cond_false, Nat.le_refl, Nat.add_eq_left, Nat.left_eq_add, Nat.add_right_cancel_iff, Nat.add_left_cancel_iff, g1, g2, l1, l2, aeq, Option.isNone, op_nilchk, nilV_ptr, op_lookup, lookV_some, lookB_mes, op_lenM, lenMV_some, lenMB_mes, Option.some.injEq, hz, *]) | (refine GuardK_split (fun hb => ?_) (fun hb => ?_)) | (refine CondK_split (fun hb => ?_) (fun hb => ?_)) | (refine CodeK_regionD _ ?_) | (refine DGuardK_split (fun hb => ?_) (fun hb => ?_))
    refine ⟨_, rfl, ?_⟩
    rw [settle_keep (by simp) (by simp [AV.under, AV.unders])]
    exact ⟨rfl, rfl, g2, fun _ _ => rfl⟩
  · have l1 := len_le hl
    rw [if_neg hl, if_neg hl]
    repeat' first | (simp only [op_lenS, lenSV_str, op_lenV, lenV_slice, op_toInt, toIntV_int, op_iaddrS, RetK_inv, RetK_inv_exit, RetK_inv_ret, Nat.add_assoc, Nat.reduceEqDiff, Nat.reduceBEq, Nat.reduceBNe, Nat.le_min, Nat.le_add_right, Nat.min_self, Int.reduceBEq, Int.reduceBNe, Int.reduceLT, Int.reduceLE, Int.reduceEq, beq_self_eq_true, bne_self_eq_false, Bool.not_true, Bool.not_false, decide_true, decide_false, decide_eq_true_eq, Bool.and_eq_true, List.mapM_cons, List.mapM_nil, Option.bind_eq_bind, Option.pure_def, aeqK_agg, aeqK_scal, leavesK_nil, leavesK_cons, leafK_i, leafK_b, leafK_s, DrawK_nil, DrawK_cons, DrawK_guard, DResK_some, DGuardK_tt, DGuardK_ff, DGuardK_tf, DGuardK_ft, DGuardK_u, kept_load, Kept, KeptOne, closeOp, CO.quiet, CO.reads, CodeK_seq, CodeK_region, CodeK_skip, CodeK_ret, CodeK_exit, CodeK_cond, CodeK_block, CondK_true, CondK_false, RunK_cons, RunK_nil, RunK_guard, GuardK_tt, GuardK_ff, GuardK_tf, GuardK_ft, GuardK_u, ResK_some, RetK_nil, RetK_seq, RetK_seq_exit, RetK_seq_ret, RetK_block, RetK_block_ret, RetK_block_exit, RetK_block_exit_ne, op_mv, op_un, op_bin, op_load, loadV_ptr, op_faddr, faddrV_ptr, op_pick, pickV_true, pickV_false, pickV_bool, pickV_same, op_box, boxV_agg, op_call, op_build, op_ext, op_alloc, op_store, storeV_ptr, List.all_cons, List.all_nil, AV.one, AV.cells, Bool.and_self, Bool.and_true, Bool.true_and, put, CA.ev, List.set_cons_zero, List.set_cons_succ, List.getD_cons_zero, List.getD_cons_succ, abin, aint, aun, isShift, Option.map_some, Option.bind_some, List.map_cons, List.map_nil, Hp.n_withLow, Hp.n_push, Hp.n_set, Hp.low_withLow, Hp.low_push, Hp.low_set, Hp.get_push, Hp.get_set, Hp.get_withLow, readVar, readCell, readCells, writeCells, over, cut, fillA, Bool.false_eq_true, if_false, if_true, reduceIte, List.getElem?_cons_zero, List.getElem?_cons_succ, Nat.zero_add, Nat.add_zero, Nat.reduceAdd, Nat.reduceSub, Nat.reduceLT, Nat.reduceLeDiff, Nat.reduceEqDiff, List.length_cons, List.length_nil, List.take_succ_cons, List.take_zero, List.drop_zero, List.drop_succ_cons, List.cons_append, List.nil_append, List.append_nil, DoneK, resAll, resOne, AV.under, AV.unders, and_true, true_and, and_self, or_true, true_or, cond_true, cond_false, Nat.le_refl, Nat.add_eq_left, Nat.left_eq_add, Nat.add_right_cancel_iff, Nat.add_left_cancel_iff, g1, g2, l1, l2, w1, aeq, Option.isNone, op_nilchk, nilV_ptr, op_lookup, lookV_some, lookB_mes, op_lenM, lenMV_some, lenMB_mes, op_mapset, msetV_some, msetB_mes, Option.some.injEq, hz, *]) | (refine GuardK_split (fun hb => ?_) (fun hb => ?_)) | (refine CondK_split (fun hb => ?_) (fun hb => ?_)) | (refine CodeK_regionD _ ?_) | (refine DGuardK_split (fun hb => ?_) (fun hb => ?_))
    all_goals
      refine ⟨_, rfl, ?_⟩
      rw [settle_low (by simp; omega)]
      refine ⟨rfl, by simp, by simp, fun b hb => ?_⟩
      simp only [Hp.get_withLow, Hp.get_set, hb, if_false]

set_option maxRecDepth 100000 in
set_option maxHeartbeats 4000000 in
theorem realseen_spec (ho : orc 26 = none) {h : AH} {own : Nat → Nat} {c r m : Nat} {E : Ent} (hm : RealM h own c r m E) (f : List UInt8) :
    acall orc T 26 [.ptr (some (r, 0)), .str f] h = some (.int .i64 (findE f E), h) := by
  refine acall_sym ho tbl26 ?_
  have g1 := hm.box
  have g2 := hm.map
  dsimp only [List.length, List.replicate, List.append, List.cons_append, List.nil_append, Nat.reduceAdd, Nat.reduceSub]
  repeat' first | (simp only [op_lenS, lenSV_str, op_lenV, lenV_slice, op_toInt, toIntV_int, op_iaddrS, RetK_inv, RetK_inv_exit, RetK_inv_ret, Nat.add_assoc, Nat.reduceEqDiff, Nat.reduceBEq, Nat.reduceBNe, Nat.le_min, Nat.le_add_right, Nat.min_self, Int.reduceBEq, Int.reduceBNe, Int.reduceLT, Int.reduceLE, Int.reduceEq, beq_self_eq_true, bne_self_eq_false, Bool.not_true, Bool.not_false, decide_true, decide_false, decide_eq_true_eq, Bool.and_eq_true, List.mapM_cons, List.mapM_nil, Option.bind_eq_bind, Option.pure_def, aeqK_agg, aeqK_scal, leavesK_nil, leavesK_cons, leafK_i, leafK_b, leafK_s, DrawK_nil, DrawK_cons, DrawK_guard, DResK_some, DGuardK_tt, DGuardK_ff, DGuardK_tf, DGuardK_ft, DGuardK_u, kept_load, Kept, KeptOne, closeOp, CO.quiet, CO.reads, CodeK_seq, CodeK_region, CodeK_skip, CodeK_ret, CodeK_exit, CodeK_cond, CodeK_block, CondK_true, CondK_false, RunK_cons, RunK_nil, RunK_guard, GuardK_tt, GuardK_ff, GuardK_tf, GuardK_ft, GuardK_u, ResK_some, RetK_nil, RetK_seq, RetK_seq_exit, RetK_seq_ret, RetK_block, RetK_block_ret, RetK_block_exit, RetK_block_exit_ne, op_mv, op_un, op_bin, op_load, loadV_ptr, op_faddr, faddrV_ptr, op_pick, pickV_true, pickV_false, pickV_bool, pickV_same, op_box, boxV_agg, op_call, op_build, op_ext, op_alloc, op_store, storeV_ptr, List.all_cons, List.all_nil, AV.one, AV.cells, Bool.and_self, Bool.and_true, Bool.true_and, put, CA.ev, List.set_cons_zero, List.set_cons_succ, List.getD_cons_zero, List.getD_cons_succ, abin, aint, aun, isShift, Option.map_some, Option.bind_some, List.map_cons, List.map_nil, Hp.n_withLow, Hp.n_push, Hp.n_set, Hp.low_withLow, Hp.low_push, Hp.low_set, Hp.get_push, Hp.get_set, Hp.get_withLow, readVar, readCell, readCells, writeCells, over, cut, fillA, Bool.false_eq_true, if_false, if_true, reduceIte, List.getElem?_cons_zero, List.getElem?_cons_succ, Nat.zero_add, Nat.add_zero, Nat.reduceAdd, Nat.reduceSub, Nat.reduceLT, Nat.reduceLeDiff, Nat.reduceEqDiff, List.length_cons, List.length_nil, List.take_succ_cons, List.take_zero, List.drop_zero, List.drop_succ_cons, List.cons_append, List.nil_append, List.append_nil, DoneK, resAll, resOne, AV.under, AV.unders, and_true, true_and, and_self, or_true, true_or, cond_true, cond_false, Nat.le_refl, Nat.add_eq_left, Nat.left_eq_add, Nat.add_right_cancel_iff, Nat.add_left_cancel_iff, g1, g2, aeq, Option.isNone, op_nilchk, nilV_ptr, op_lookup, lookV_some, lookB_mes, *]) | (refine GuardK_split (fun hb => ?_) (fun hb => ?_)) | (refine CondK_split (fun hb => ?_) (fun hb => ?_)) | (refine CodeK_regionD _ ?_) | (refine DGuardK_split (fun hb => ?_) (fun hb => ?_))
end Go.Proofs.Js
