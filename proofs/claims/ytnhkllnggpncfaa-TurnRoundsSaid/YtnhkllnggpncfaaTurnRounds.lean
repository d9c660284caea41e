/- The law TurnRounds returns true at every turn and every lists of deeds and items; what was handed in reads as it did. -/
import Derived.Test.YtnhkllnggpncfaaRows
import Derived.Test.YtnhkllnggpncfaaFsInts
import Derived.Test.YtnhkllnggpncfaaTurnSpec2
namespace Go.Proofs.Turn
open Go Go.Fs
set_option linter.unusedSimpArgs false

noncomputable def orcR : Orc := orcPure Try.prog 60 [32, 37]

theorem awake_spec (h : AH) : acall orcR T 32 [] h = some (.bool true, h) := acall_pure (by decide) rfl rfl (by kernel_rfl)

theorem ends_spec (p ph w q : Int) (hp : isBit p = true) (h : AH) : acall orcR T 37 [turnV p ph w q] h = some (.bool true, h) := by
  simp only [isBit, decide_eq_true_eq] at hp
  rcases hp with rfl | rfl
  · exact acall_pure (by decide) rfl rfl (by kernel_rfl)
  · exact acall_pure (by decide) rfl rfl (by kernel_rfl)

/-- A list of bytes, as it was handed in. -/
def U8s (h : AH) (v : AV) (xs : List Int) : Prop :=
  ∃ a c, v = .slice a xs.length c ∧ (∀ x ∈ xs, 0 ≤ x ∧ x ≤ 255) ∧ (xs = [] ∨ ∃ (b : Nat) (cells : List AV) (ro : Bool), a = some (b, 0) ∧ b < h.n ∧ h.get b = some (.cells cells ro) ∧ ∀ (i : Nat) (x : Int), xs[i]? = some x → cells[i]? = some (.int .u8 x))

structure Inv (h0 : AH) (dv iv : AV) (n : Nat) (tm : List AV) (h : AH) : Prop where
  len : tm.length = 178
  t1 : tm.getD 1 AV.undef = dv
  t2 : tm.getD 2 AV.undef = iv
  t3 : tm.getD 3 AV.undef = .ptr (some (h0.n, 0))
  t7 : tm.getD 7 AV.undef = .bool true
  st : ∃ (p ph w q : Int) (i : Nat), n = 500 - i ∧ i ≤ 500 ∧ turnOk p ph w q = true ∧ tm.getD 11 AV.undef = .bool (q == 1) ∧ tm.getD 12 AV.undef = .int .i64 i ∧
    h.get h0.n = some (.cells [.int .i64 p, .int .u8 ph, .int .i64 w, .int .i64 q] false)
  hn : h0.n < h.n
  low : h0.n ≤ h.low
  old : ∀ b, b < h0.n → h.get b = h0.get b

theorem bit64 {n : Int} (h : isBit n = true) : i64 n := by
  simp only [isBit, decide_eq_true_eq] at h
  unfold i64; omega

theorem pass_ok {p ph w q : Int} (m : Int) (g1 : isBit p = true) (g2 : isBit w = true) (g3 : isBit q = true) (g4 : ph = 1 ∨ ph = 2) :
    turnOk (passP p ph q m) (passPh ph q m) (passW p ph w q m) (passQ q) = true := by
  grind [turnOk, passP, passPh, passW, passQ, isBit]

set_option maxRecDepth 100000 in
set_option maxHeartbeats 8000000 in
theorem rounds_spec (p ph w q : Int) (ds is : List Int) (dv iv : AV) (hp : i64 p) (hw : i64 w) (hq : i64 q) (h : AH) (hd : U8s h dv ds) (hi : U8s h iv is) :
    acall orcR T 6 [turnV p ph w q, dv, iv] h = some (.bool true, h) := by
  refine acall_sym rfl tbl6 ?_
  have b0 := awake_spec
  have b1 := check_spec (orc := orcR) rfl rfl p ph w q hp hw hq
  have b2 := pass_spec (orc := orcR) rfl rfl rfl rfl rfl p ph w q 0 hp hw hq
  cases hk : turnOk p ph w q with
  | false =>
    have hk2 : passOk p ph w q 0 = false := by simp [passOk, hk]
    have hk3 : checkE p ph w q = 2 := by simp [checkE, hk]
    dsimp only [List.length, List.replicate, List.append, List.cons_append, List.nil_append, Nat.reduceAdd, Nat.reduceSub, turnV, passV] at b1 b2 ⊢
    rw [hk2] at b2
    rw [hk3] at b1
    dsimp only [z, e2] at b2
    repeat' first
    | (simp only [op_lenS, lenSV_str, op_lenV, lenV_slice, op_toInt, toIntV_int, op_iaddrS, RetK_inv, RetK_inv_exit, RetK_inv_ret, Nat.add_assoc, Nat.reduceEqDiff, Nat.reduceBEq, Nat.reduceBNe, Nat.le_min, Nat.le_add_right, Nat.min_self, Int.reduceBEq, Int.reduceBNe, Int.reduceLT, Int.reduceLE, Int.reduceEq, beq_self_eq_true, bne_self_eq_false, Bool.not_true, Bool.not_false, decide_true, decide_false, decide_eq_true_eq, Bool.and_eq_true, List.mapM_cons, List.mapM_nil, Option.bind_eq_bind, Option.pure_def, aeqK_agg, aeqK_scal, leavesK_nil, leavesK_cons, leafK_i, leafK_b, leafK_s, DrawK_nil, DrawK_cons, DrawK_guard, DResK_some, DGuardK_tt, DGuardK_ff, DGuardK_tf, DGuardK_ft, DGuardK_u, kept_load, Kept, KeptOne, closeOp, CO.quiet, CO.reads, CodeK_seq, CodeK_region, CodeK_skip, CodeK_ret, CodeK_exit, CodeK_cond, CodeK_block, CondK_true, CondK_false, RunK_cons, RunK_nil, RunK_guard, GuardK_tt, GuardK_ff, GuardK_tf, GuardK_ft, GuardK_u, ResK_some, RetK_nil, RetK_seq, RetK_seq_exit, RetK_seq_ret, RetK_block, RetK_block_ret, RetK_block_exit, RetK_block_exit_ne, op_mv, op_un, op_bin, op_load, loadV_ptr, op_faddr, faddrV_ptr, op_pick, pickV_true, pickV_false, pickV_bool, pickV_same, op_box, boxV_agg, op_call, op_build, op_ext, op_alloc, op_store, storeV_ptr, List.all_cons, List.all_nil, AV.one, AV.cells, Bool.and_self, Bool.and_true, Bool.true_and, put, CA.ev, List.set_cons_zero, List.set_cons_succ, List.getD_cons_zero, List.getD_cons_succ, abin, aint, aun, isShift, Option.map_some, Option.bind_some, List.map_cons, List.map_nil, Hp.n_withLow, Hp.n_push, Hp.n_set, Hp.low_withLow, Hp.low_push, Hp.low_set, Hp.get_push, Hp.get_set, Hp.get_withLow, readVar, readCell, readCells, writeCells, over, cut, fillA, Bool.false_eq_true, if_false, if_true, reduceIte, List.getElem?_cons_zero, List.getElem?_cons_succ, Nat.zero_add, Nat.add_zero, Nat.reduceAdd, Nat.reduceSub, Nat.reduceLT, Nat.reduceLeDiff, Nat.reduceEqDiff, List.length_cons, List.length_nil, List.take_succ_cons, List.take_zero, List.drop_zero, List.drop_succ_cons, List.cons_append, List.nil_append, List.append_nil, DoneK, resAll, resOne, AV.under, AV.unders, and_true, true_and, and_self, or_true, true_or, cond_true, cond_false, Nat.le_refl, Nat.add_eq_left, Nat.left_eq_add, Nat.add_right_cancel_iff, Nat.add_left_cancel_iff, b0, b1, b2, *])
    | (refine GuardK_split (fun hb => ?_) (fun hb => ?_))
    | (refine CondK_split (fun hb => ?_) (fun hb => ?_))
    | (refine CodeK_regionD _ ?_)
    | (refine DGuardK_split (fun hb => ?_) (fun hb => ?_))
  | true =>
    have hk3 : checkE p ph w q = 0 := by simp [checkE, hk]
    clear b2
    dsimp only [List.length, List.replicate, List.append, List.cons_append, List.nil_append, Nat.reduceAdd, Nat.reduceSub, turnV] at b1 ⊢
    rw [hk3] at b1
    repeat' first
    | (simp only [op_lenS, lenSV_str, op_lenV, lenV_slice, op_toInt, toIntV_int, op_iaddrS, RetK_inv, RetK_inv_exit, RetK_inv_ret, Nat.add_assoc, Nat.reduceEqDiff, Nat.reduceBEq, Nat.reduceBNe, Nat.le_min, Nat.le_add_right, Nat.min_self, Int.reduceBEq, Int.reduceBNe, Int.reduceLT, Int.reduceLE, Int.reduceEq, beq_self_eq_true, bne_self_eq_false, Bool.not_true, Bool.not_false, decide_true, decide_false, decide_eq_true_eq, Bool.and_eq_true, List.mapM_cons, List.mapM_nil, Option.bind_eq_bind, Option.pure_def, aeqK_agg, aeqK_scal, leavesK_nil, leavesK_cons, leafK_i, leafK_b, leafK_s, DrawK_nil, DrawK_cons, DrawK_guard, DResK_some, DGuardK_tt, DGuardK_ff, DGuardK_tf, DGuardK_ft, DGuardK_u, kept_load, Kept, KeptOne, closeOp, CO.quiet, CO.reads, CodeK_seq, CodeK_region, CodeK_skip, CodeK_ret, CodeK_exit, CodeK_cond, CodeK_block, CondK_true, CondK_false, RunK_cons, RunK_nil, RunK_guard, GuardK_tt, GuardK_ff, GuardK_tf, GuardK_ft, GuardK_u, ResK_some, RetK_nil, RetK_seq, RetK_seq_exit, RetK_seq_ret, RetK_block, RetK_block_ret, RetK_block_exit, RetK_block_exit_ne, op_mv, op_un, op_bin, op_load, loadV_ptr, op_faddr, faddrV_ptr, op_pick, pickV_true, pickV_false, pickV_bool, pickV_same, op_box, boxV_agg, op_call, op_build, op_ext, op_alloc, op_store, storeV_ptr, List.all_cons, List.all_nil, AV.one, AV.cells, Bool.and_self, Bool.and_true, Bool.true_and, put, CA.ev, List.set_cons_zero, List.set_cons_succ, List.getD_cons_zero, List.getD_cons_succ, abin, aint, aun, isShift, Option.map_some, Option.bind_some, List.map_cons, List.map_nil, Hp.n_withLow, Hp.n_push, Hp.n_set, Hp.low_withLow, Hp.low_push, Hp.low_set, Hp.get_push, Hp.get_set, Hp.get_withLow, readVar, readCell, readCells, writeCells, over, cut, fillA, Bool.false_eq_true, if_false, if_true, reduceIte, List.getElem?_cons_zero, List.getElem?_cons_succ, Nat.zero_add, Nat.add_zero, Nat.reduceAdd, Nat.reduceSub, Nat.reduceLT, Nat.reduceLeDiff, Nat.reduceEqDiff, List.length_cons, List.length_nil, List.take_succ_cons, List.take_zero, List.drop_zero, List.drop_succ_cons, List.cons_append, List.nil_append, List.append_nil, DoneK, resAll, resOne, AV.under, AV.unders, and_true, true_and, and_self, or_true, true_or, cond_true, cond_false, Nat.le_refl, Nat.add_eq_left, Nat.left_eq_add, Nat.add_right_cancel_iff, Nat.add_left_cancel_iff, b0, b1, *])
    | (refine GuardK_split (fun hb => ?_) (fun hb => ?_))
    | (refine CondK_split (fun hb => ?_) (fun hb => ?_))
    | (refine CodeK_regionD _ ?_)
    | (refine DGuardK_split (fun hb => ?_) (fun hb => ?_))
    refine CodeK_loop (Inv h dv iv) 500 ?_ ?_
    · refine ⟨rfl, rfl, rfl, rfl, rfl, ⟨p, ph, w, q, 0, rfl, by omega, hk, rfl, rfl, ?_⟩, ?_, ?_, ?_⟩
      · simp only [op_lenS, lenSV_str, op_lenV, lenV_slice, op_toInt, toIntV_int, op_iaddrS, RetK_inv, RetK_inv_exit, RetK_inv_ret, Nat.add_assoc, Nat.reduceEqDiff, Nat.reduceBEq, Nat.reduceBNe, Nat.le_min, Nat.le_add_right, Nat.min_self, Int.reduceBEq, Int.reduceBNe, Int.reduceLT, Int.reduceLE, Int.reduceEq, beq_self_eq_true, bne_self_eq_false, Bool.not_true, Bool.not_false, decide_true, decide_false, decide_eq_true_eq, Bool.and_eq_true, List.mapM_cons, List.mapM_nil, Option.bind_eq_bind, Option.pure_def, aeqK_agg, aeqK_scal, leavesK_nil, leavesK_cons, leafK_i, leafK_b, leafK_s, DrawK_nil, DrawK_cons, DrawK_guard, DResK_some, DGuardK_tt, DGuardK_ff, DGuardK_tf, DGuardK_ft, DGuardK_u, kept_load, Kept, KeptOne, closeOp, CO.quiet, CO.reads, CodeK_seq, CodeK_region, CodeK_skip, CodeK_ret, CodeK_exit, CodeK_cond, CodeK_block, CondK_true, CondK_false, RunK_cons, RunK_nil, RunK_guard, GuardK_tt, GuardK_ff, GuardK_tf, GuardK_ft, GuardK_u, ResK_some, RetK_nil, RetK_seq, RetK_seq_exit, RetK_seq_ret, RetK_block, RetK_block_ret, RetK_block_exit, RetK_block_exit_ne, op_mv, op_un, op_bin, op_load, loadV_ptr, op_faddr, faddrV_ptr, op_pick, pickV_true, pickV_false, pickV_bool, pickV_same, op_box, boxV_agg, op_call, op_build, op_ext, op_alloc, op_store, storeV_ptr, List.all_cons, List.all_nil, AV.one, AV.cells, Bool.and_self, Bool.and_true, Bool.true_and, put, CA.ev, List.set_cons_zero, List.set_cons_succ, List.getD_cons_zero, List.getD_cons_succ, abin, aint, aun, isShift, Option.map_some, Option.bind_some, List.map_cons, List.map_nil, Hp.n_withLow, Hp.n_push, Hp.n_set, Hp.low_withLow, Hp.low_push, Hp.low_set, Hp.get_push, Hp.get_set, Hp.get_withLow, readVar, readCell, readCells, writeCells, over, cut, fillA, Bool.false_eq_true, if_false, if_true, reduceIte, List.getElem?_cons_zero, List.getElem?_cons_succ, Nat.zero_add, Nat.add_zero, Nat.reduceAdd, Nat.reduceSub, Nat.reduceLT, Nat.reduceLeDiff, Nat.reduceEqDiff, List.length_cons, List.length_nil, List.take_succ_cons, List.take_zero, List.drop_zero, List.drop_succ_cons, List.cons_append, List.nil_append, List.append_nil, DoneK, resAll, resOne, AV.under, AV.unders, and_true, true_and, and_self, or_true, true_or, cond_true, cond_false, Nat.le_refl, Nat.add_eq_left, Nat.left_eq_add, Nat.add_right_cancel_iff, Nat.add_left_cancel_iff]
      · simp only [op_lenS, lenSV_str, op_lenV, lenV_slice, op_toInt, toIntV_int, op_iaddrS, RetK_inv, RetK_inv_exit, RetK_inv_ret, Nat.add_assoc, Nat.reduceEqDiff, Nat.reduceBEq, Nat.reduceBNe, Nat.le_min, Nat.le_add_right, Nat.min_self, Int.reduceBEq, Int.reduceBNe, Int.reduceLT, Int.reduceLE, Int.reduceEq, beq_self_eq_true, bne_self_eq_false, Bool.not_true, Bool.not_false, decide_true, decide_false, decide_eq_true_eq, Bool.and_eq_true, List.mapM_cons, List.mapM_nil, Option.bind_eq_bind, Option.pure_def, aeqK_agg, aeqK_scal, leavesK_nil, leavesK_cons, leafK_i, leafK_b, leafK_s, DrawK_nil, DrawK_cons, DrawK_guard, DResK_some, DGuardK_tt, DGuardK_ff, DGuardK_tf, DGuardK_ft, DGuardK_u, kept_load, Kept, KeptOne, closeOp, CO.quiet, CO.reads, CodeK_seq, CodeK_region, CodeK_skip, CodeK_ret, CodeK_exit, CodeK_cond, CodeK_block, CondK_true, CondK_false, RunK_cons, RunK_nil, RunK_guard, GuardK_tt, GuardK_ff, GuardK_tf, GuardK_ft, GuardK_u, ResK_some, RetK_nil, RetK_seq, RetK_seq_exit, RetK_seq_ret, RetK_block, RetK_block_ret, RetK_block_exit, RetK_block_exit_ne, op_mv, op_un, op_bin, op_load, loadV_ptr, op_faddr, faddrV_ptr, op_pick, pickV_true, pickV_false, pickV_bool, pickV_same, op_box, boxV_agg, op_call, op_build, op_ext, op_alloc, op_store, storeV_ptr, List.all_cons, List.all_nil, AV.one, AV.cells, Bool.and_self, Bool.and_true, Bool.true_and, put, CA.ev, List.set_cons_zero, List.set_cons_succ, List.getD_cons_zero, List.getD_cons_succ, abin, aint, aun, isShift, Option.map_some, Option.bind_some, List.map_cons, List.map_nil, Hp.n_withLow, Hp.n_push, Hp.n_set, Hp.low_withLow, Hp.low_push, Hp.low_set, Hp.get_push, Hp.get_set, Hp.get_withLow, readVar, readCell, readCells, writeCells, over, cut, fillA, Bool.false_eq_true, if_false, if_true, reduceIte, List.getElem?_cons_zero, List.getElem?_cons_succ, Nat.zero_add, Nat.add_zero, Nat.reduceAdd, Nat.reduceSub, Nat.reduceLT, Nat.reduceLeDiff, Nat.reduceEqDiff, List.length_cons, List.length_nil, List.take_succ_cons, List.take_zero, List.drop_zero, List.drop_succ_cons, List.cons_append, List.nil_append, List.append_nil, DoneK, resAll, resOne, AV.under, AV.unders, and_true, true_and, and_self, or_true, true_or, cond_true, cond_false, Nat.le_refl, Nat.add_eq_left, Nat.left_eq_add, Nat.add_right_cancel_iff, Nat.add_left_cancel_iff]; omega
      · simp only [op_lenS, lenSV_str, op_lenV, lenV_slice, op_toInt, toIntV_int, op_iaddrS, RetK_inv, RetK_inv_exit, RetK_inv_ret, Nat.add_assoc, Nat.reduceEqDiff, Nat.reduceBEq, Nat.reduceBNe, Nat.le_min, Nat.le_add_right, Nat.min_self, Int.reduceBEq, Int.reduceBNe, Int.reduceLT, Int.reduceLE, Int.reduceEq, beq_self_eq_true, bne_self_eq_false, Bool.not_true, Bool.not_false, decide_true, decide_false, decide_eq_true_eq, Bool.and_eq_true, List.mapM_cons, List.mapM_nil, Option.bind_eq_bind, Option.pure_def, aeqK_agg, aeqK_scal, leavesK_nil, leavesK_cons, leafK_i, leafK_b, leafK_s, DrawK_nil, DrawK_cons, DrawK_guard, DResK_some, DGuardK_tt, DGuardK_ff, DGuardK_tf, DGuardK_ft, DGuardK_u, kept_load, Kept, KeptOne, closeOp, CO.quiet, CO.reads, CodeK_seq, CodeK_region, CodeK_skip, CodeK_ret, CodeK_exit, CodeK_cond, CodeK_block, CondK_true, CondK_false, RunK_cons, RunK_nil, RunK_guard, GuardK_tt, GuardK_ff, GuardK_tf, GuardK_ft, GuardK_u, ResK_some, RetK_nil, RetK_seq, RetK_seq_exit, RetK_seq_ret, RetK_block, RetK_block_ret, RetK_block_exit, RetK_block_exit_ne, op_mv, op_un, op_bin, op_load, loadV_ptr, op_faddr, faddrV_ptr, op_pick, pickV_true, pickV_false, pickV_bool, pickV_same, op_box, boxV_agg, op_call, op_build, op_ext, op_alloc, op_store, storeV_ptr, List.all_cons, List.all_nil, AV.one, AV.cells, Bool.and_self, Bool.and_true, Bool.true_and, put, CA.ev, List.set_cons_zero, List.set_cons_succ, List.getD_cons_zero, List.getD_cons_succ, abin, aint, aun, isShift, Option.map_some, Option.bind_some, List.map_cons, List.map_nil, Hp.n_withLow, Hp.n_push, Hp.n_set, Hp.low_withLow, Hp.low_push, Hp.low_set, Hp.get_push, Hp.get_set, Hp.get_withLow, readVar, readCell, readCells, writeCells, over, cut, fillA, Bool.false_eq_true, if_false, if_true, reduceIte, List.getElem?_cons_zero, List.getElem?_cons_succ, Nat.zero_add, Nat.add_zero, Nat.reduceAdd, Nat.reduceSub, Nat.reduceLT, Nat.reduceLeDiff, Nat.reduceEqDiff, List.length_cons, List.length_nil, List.take_succ_cons, List.take_zero, List.drop_zero, List.drop_succ_cons, List.cons_append, List.nil_append, List.append_nil, DoneK, resAll, resOne, AV.under, AV.unders, and_true, true_and, and_self, or_true, true_or, cond_true, cond_false, Nat.le_refl, Nat.add_eq_left, Nat.left_eq_add, Nat.add_right_cancel_iff, Nat.add_left_cancel_iff]
      · intro b hb
        have hb' : ¬ b = h.n := by omega
        simp only [op_lenS, lenSV_str, op_lenV, lenV_slice, op_toInt, toIntV_int, op_iaddrS, RetK_inv, RetK_inv_exit, RetK_inv_ret, Nat.add_assoc, Nat.reduceEqDiff, Nat.reduceBEq, Nat.reduceBNe, Nat.le_min, Nat.le_add_right, Nat.min_self, Int.reduceBEq, Int.reduceBNe, Int.reduceLT, Int.reduceLE, Int.reduceEq, beq_self_eq_true, bne_self_eq_false, Bool.not_true, Bool.not_false, decide_true, decide_false, decide_eq_true_eq, Bool.and_eq_true, List.mapM_cons, List.mapM_nil, Option.bind_eq_bind, Option.pure_def, aeqK_agg, aeqK_scal, leavesK_nil, leavesK_cons, leafK_i, leafK_b, leafK_s, DrawK_nil, DrawK_cons, DrawK_guard, DResK_some, DGuardK_tt, DGuardK_ff, DGuardK_tf, DGuardK_ft, DGuardK_u, kept_load, Kept, KeptOne, closeOp, CO.quiet, CO.reads, CodeK_seq, CodeK_region, CodeK_skip, CodeK_ret, CodeK_exit, CodeK_cond, CodeK_block, CondK_true, CondK_false, RunK_cons, RunK_nil, RunK_guard, GuardK_tt, GuardK_ff, GuardK_tf, GuardK_ft, GuardK_u, ResK_some, RetK_nil, RetK_seq, RetK_seq_exit, RetK_seq_ret, RetK_block, RetK_block_ret, RetK_block_exit, RetK_block_exit_ne, op_mv, op_un, op_bin, op_load, loadV_ptr, op_faddr, faddrV_ptr, op_pick, pickV_true, pickV_false, pickV_bool, pickV_same, op_box, boxV_agg, op_call, op_build, op_ext, op_alloc, op_store, storeV_ptr, List.all_cons, List.all_nil, AV.one, AV.cells, Bool.and_self, Bool.and_true, Bool.true_and, put, CA.ev, List.set_cons_zero, List.set_cons_succ, List.getD_cons_zero, List.getD_cons_succ, abin, aint, aun, isShift, Option.map_some, Option.bind_some, List.map_cons, List.map_nil, Hp.n_withLow, Hp.n_push, Hp.n_set, Hp.low_withLow, Hp.low_push, Hp.low_set, Hp.get_push, Hp.get_set, Hp.get_withLow, readVar, readCell, readCells, writeCells, over, cut, fillA, Bool.false_eq_true, if_false, if_true, reduceIte, List.getElem?_cons_zero, List.getElem?_cons_succ, Nat.zero_add, Nat.add_zero, Nat.reduceAdd, Nat.reduceSub, Nat.reduceLT, Nat.reduceLeDiff, Nat.reduceEqDiff, List.length_cons, List.length_nil, List.take_succ_cons, List.take_zero, List.drop_zero, List.drop_succ_cons, List.cons_append, List.nil_append, List.append_nil, DoneK, resAll, resOne, AV.under, AV.unders, and_true, true_and, and_self, or_true, true_or, cond_true, cond_false, Nat.le_refl, Nat.add_eq_left, Nat.left_eq_add, Nat.add_right_cancel_iff, Nat.add_left_cancel_iff, hb']
    · intro n tm h' I
      obtain ⟨p, ph, w, q, i, hn, hi5, hok, e11, e12, hg⟩ := I.st
      obtain ⟨da, dc, rfl, hdx, hda⟩ := hd
      obtain ⟨ia, ic, rfl, hix, hia⟩ := hi
      have el := I.len
      have e1 := I.t1
      have e2' := I.t2
      have e3 := I.t3
      have e7 := I.t7
      have hlow := I.low
      have hnn := I.hn
      have hold := I.old
      obtain ⟨g1, g2, g3, g4⟩ := ok_parts hok
      by_cases hlt : i < ds.length ∧ i < is.length ∧ i < 500
      · obtain ⟨hl1, hl2, hl3⟩ := hlt
        have hdx' := List.getElem?_eq_getElem hl1
        have hix' := List.getElem?_eq_getElem hl2
        generalize hxd : ds[i] = x at hdx'
        generalize hyd : is[i] = y at hix'
        have hy := hix y (by rw [← hyd]; exact List.getElem_mem hl2)
        have hx := hdx x (by rw [← hxd]; exact List.getElem_mem hl1)
        rcases hda with rfl | ⟨db, dcells, dro, rfl, hdb, hdg, hde⟩
        · simp at hl1
        rcases hia with rfl | ⟨ib, icells, iro, rfl, hib, hig, hie⟩
        · simp at hl2
        have q1 := hde i x hdx'
        have q2 := hie i y hix'
        have q3 : h'.get db = some (.cells dcells dro) := by rw [hold db hdb, hdg]
        have q4 : h'.get ib = some (.cells icells iro) := by rw [hold ib hib, hig]
        have n1 : ¬ db = h.n := by omega
        have n2 : ¬ db = h'.n := by omega
        have n3 : ¬ ib = h.n := by omega
        have n4 : ¬ ib = h'.n := by omega
        have n5 : ¬ h.n = h'.n := by omega
        have n6 : ¬ h'.n = h.n := by omega
        have l1 : decide ((i : Int) < (ds.length : Int)) = true := by simp; omega
        have l2 : decide ((i : Int) < (is.length : Int)) = true := by simp; omega
        have l3 : decide ((i : Int) < 500) = true := by simp; omega
        have r1 : ∃ m : Int, IntKind.wrap .i64 (y.tmod 25) = m ∧ 0 ≤ m ∧ m ≤ 24 := by
          refine ⟨_, rfl, ?_⟩
          have : y.tmod 25 = y % 25 := Int.tmod_eq_emod_of_nonneg hy.1
          rw [this, wrap_i64 (by omega) (by omega)]
          omega
        obtain ⟨m, r1, m0, m24⟩ := r1
        have r2 : ∃ k : Int, x.tmod 3 = k := ⟨_, rfl⟩
        obtain ⟨k, r2⟩ := r2
        have w1 : IntKind.wrap .i64 ((i : Int) + 1) = ((i + 1 : Nat) : Int) := by
          rw [wrap_i64 (by omega) (by omega)]
          omega
        have c2 := played_spec (orc := orcR) rfl rfl rfl rfl p ph w q (bit64 g1) (bit64 g2) (bit64 g3)
        have c3 := struck_spec (orc := orcR) rfl rfl rfl p ph w q (bit64 g1) (bit64 g2) (bit64 g3)
        have c4 := pass_spec (orc := orcR) rfl rfl rfl rfl rfl p ph w q m (bit64 g1) (bit64 g2) (bit64 g3)
        have hpo : passOk p ph w q m = true := by simp [passOk, hok, m0, m24]
        have sb := sub_bit g2
        have sb1 := sub_bit g1
        dsimp only [playedV, struckV, passV, turnV] at c2 c3 c4
        rw [hok] at c2 c3
        rw [hpo] at c4
        have i1 : isBit (1 - w) = true := by simp only [isBit, decide_eq_true_eq] at g2 ⊢; omega
        have i0 : isBit 0 = true := rfl
        have v2 := check_spec (orc := orcR) rfl rfl p ph (1 - w) 0 (bit64 g1) (bit64 i1) (bit64 i0)
        have v3 := check_spec (orc := orcR) rfl rfl p ph w 0 (bit64 g1) (bit64 g2) (bit64 i0)
        have o2 : checkE p ph (1 - w) 0 = 0 := by rcases g4 with rfl | rfl <;> simp [checkE, turnOk, g1, i1, i0]
        have o3 : checkE p ph w 0 = 0 := by rcases g4 with rfl | rfl <;> simp [checkE, turnOk, g1, g2, i0]
        rw [o2] at v2
        rw [o3] at v3
        have okP : turnOk p ph (1 - w) 0 = true := by rcases g4 with rfl | rfl <;> simp [turnOk, g1, i1, i0]
        have okS : turnOk p ph w 0 = true := by rcases g4 with rfl | rfl <;> simp [turnOk, g1, g2, i0]
        have fq : (passF ph q m == 1) = (passQ q == 1) := by
          have : passF ph q m = 1 ↔ passQ q = 1 := by grind [passF, passQ, followE]
          by_cases h1 : passF ph q m = 1
          · simp [h1, this.1 h1]
          · have h2 : passQ q ≠ 1 := fun h => h1 (this.2 h)
            exact (beq_eq_false_iff_ne.2 h1).trans (beq_eq_false_iff_ne.2 h2).symm
        have po := pass_ok m g1 g2 g3 g4
        have po' := ok_parts po
        have v4 := check_spec (orc := orcR) rfl rfl (passP p ph q m) (passPh ph q m) (passW p ph w q m) (passQ q) (bit64 po'.1) (bit64 po'.2.1) (bit64 po'.2.2.1)
        have o4 : checkE (passP p ph q m) (passPh ph q m) (passW p ph w q m) (passQ q) = 0 := by simp [checkE, po]
        rw [o4] at v4
        dsimp only [z, e2, turnV] at c2 c3 c4 v2 v3 v4
        repeat' first
    | (simp only [op_lenS, lenSV_str, op_lenV, lenV_slice, op_toInt, toIntV_int, op_iaddrS, RetK_inv, RetK_inv_exit, RetK_inv_ret, Nat.add_assoc, Nat.reduceEqDiff, Nat.reduceBEq, Nat.reduceBNe, Nat.le_min, Nat.le_add_right, Nat.min_self, Int.reduceBEq, Int.reduceBNe, Int.reduceLT, Int.reduceLE, Int.reduceEq, beq_self_eq_true, bne_self_eq_false, Bool.not_true, Bool.not_false, decide_true, decide_false, decide_eq_true_eq, Bool.and_eq_true, List.mapM_cons, List.mapM_nil, Option.bind_eq_bind, Option.pure_def, aeqK_agg, aeqK_scal, leavesK_nil, leavesK_cons, leafK_i, leafK_b, leafK_s, DrawK_nil, DrawK_cons, DrawK_guard, DResK_some, DGuardK_tt, DGuardK_ff, DGuardK_tf, DGuardK_ft, DGuardK_u, kept_load, Kept, KeptOne, closeOp, CO.quiet, CO.reads, CodeK_seq, CodeK_region, CodeK_skip, CodeK_ret, CodeK_exit, CodeK_cond, CodeK_block, CondK_true, CondK_false, RunK_cons, RunK_nil, RunK_guard, GuardK_tt, GuardK_ff, GuardK_tf, GuardK_ft, GuardK_u, ResK_some, RetK_nil, RetK_seq, RetK_seq_exit, RetK_seq_ret, RetK_block, RetK_block_ret, RetK_block_exit, RetK_block_exit_ne, op_mv, op_un, op_bin, op_load, loadV_ptr, op_faddr, faddrV_ptr, op_pick, pickV_true, pickV_false, pickV_bool, pickV_same, op_box, boxV_agg, op_call, op_build, op_ext, op_alloc, op_store, storeV_ptr, List.all_cons, List.all_nil, AV.one, AV.cells, Bool.and_self, Bool.and_true, Bool.true_and, put, CA.ev, List.set_cons_zero, List.set_cons_succ, List.getD_cons_zero, List.getD_cons_succ, abin, aint, aun, isShift, Option.map_some, Option.bind_some, List.map_cons, List.map_nil, Hp.n_withLow, Hp.n_push, Hp.n_set, Hp.low_withLow, Hp.low_push, Hp.low_set, Hp.get_push, Hp.get_set, Hp.get_withLow, readVar, readCell, readCells, writeCells, over, cut, fillA, Bool.false_eq_true, if_false, if_true, reduceIte, List.getElem?_cons_zero, List.getElem?_cons_succ, Nat.zero_add, Nat.add_zero, Nat.reduceAdd, Nat.reduceSub, Nat.reduceLT, Nat.reduceLeDiff, Nat.reduceEqDiff, List.length_cons, List.length_nil, List.take_succ_cons, List.take_zero, List.drop_zero, List.drop_succ_cons, List.cons_append, List.nil_append, List.append_nil, DoneK, resAll, resOne, AV.under, AV.unders, and_true, true_and, and_self, or_true, true_or, cond_true, cond_false, Nat.le_refl, Nat.add_eq_left, Nat.left_eq_add, Nat.add_right_cancel_iff, Nat.add_left_cancel_iff, el, e1, e2', e3, e7, e11, e12, hg, q1, q2, q3, q4, n1, n2, n3, n4, n5, l1, l2, l3, r1, r2, w1, c2, c3, c4, v2, v3, v4, sb, sb1, n6, iaddrV_nat hl1, iaddrV_nat hl2, tmset_self, tmset_ne, List.length_set, Nat.mul_one, *])
    | (refine GuardK_split (fun hb => ?_) (fun hb => ?_))
    | (refine CondK_split (fun hb => ?_) (fun hb => ?_))
    | (refine CodeK_regionD _ ?_)
    | (refine DGuardK_split (fun hb => ?_) (fun hb => ?_))
        all_goals first
          | (refine ⟨500 - (i + 1), by omega, ?_⟩
             refine ⟨by simp only [List.length_set, el], by simp only [tmset_self, tmset_ne, List.length_set, el, Nat.reduceBEq, Nat.reduceLT, e1], by simp only [tmset_self, tmset_ne, List.length_set, el, Nat.reduceBEq, Nat.reduceLT, e2'], by simp only [tmset_self, tmset_ne, List.length_set, el, Nat.reduceBEq, Nat.reduceLT, e3], by simp only [tmset_self, tmset_ne, List.length_set, el, Nat.reduceBEq, Nat.reduceLT, e7], ?_, ?_, ?_, ?_⟩
             · first
                 | (refine ⟨p, ph, 1 - w, 0, i + 1, rfl, by omega, okP, ?_, ?_, ?_⟩
                    · simp only [tmset_self, tmset_ne, List.length_set, el, Nat.reduceBEq, Nat.reduceLT]; rfl
                    · simp only [tmset_self, tmset_ne, List.length_set, el, Nat.reduceBEq, Nat.reduceLT]
                    · simp only [Hp.get_set, Hp.get_push, Hp.n_set, Hp.n_push, Hp.low_set, Hp.low_push, Nat.le_min, reduceIte, if_true, if_false, n5, n6])
                 | (refine ⟨p, ph, w, 0, i + 1, rfl, by omega, okS, ?_, ?_, ?_⟩
                    · simp only [tmset_self, tmset_ne, List.length_set, el, Nat.reduceBEq, Nat.reduceLT]; rfl
                    · simp only [tmset_self, tmset_ne, List.length_set, el, Nat.reduceBEq, Nat.reduceLT]
                    · simp only [Hp.get_set, Hp.get_push, Hp.n_set, Hp.n_push, Hp.low_set, Hp.low_push, Nat.le_min, reduceIte, if_true, if_false, n5, n6])
                 | (refine ⟨passP p ph q m, passPh ph q m, passW p ph w q m, passQ q, i + 1, rfl, by omega, po, ?_, ?_, ?_⟩
                    · simp only [tmset_self, tmset_ne, List.length_set, el, Nat.reduceBEq, Nat.reduceLT, fq]
                    · simp only [tmset_self, tmset_ne, List.length_set, el, Nat.reduceBEq, Nat.reduceLT]
                    · simp only [Hp.get_set, Hp.get_push, Hp.n_set, Hp.n_push, Hp.low_set, Hp.low_push, Nat.le_min, reduceIte, if_true, if_false, n5, n6])
             · simp only [Hp.get_set, Hp.get_push, Hp.n_set, Hp.n_push, Hp.low_set, Hp.low_push, Nat.le_min, reduceIte, if_true, if_false]; omega
             · simp only [Hp.get_set, Hp.get_push, Hp.n_set, Hp.n_push, Hp.low_set, Hp.low_push, Nat.le_min, reduceIte, if_true, if_false]; omega
             · intro b hb
               have k1 : ¬ b = h.n := by omega
               have k2 : ¬ b = h'.n := by omega
               simp only [Hp.get_set, Hp.get_push, Hp.n_set, Hp.n_push, Hp.low_set, Hp.low_push, Nat.le_min, reduceIte, if_true, if_false, k1, k2, hold b hb])
          | (exfalso
             clear c2 c3 c4 v2 v3 v4 b0 b1
             simp only [beq_iff_eq, beq_eq_false_iff_ne, bne_iff_ne, bne_eq_false_iff_eq, decide_eq_true_eq, decide_eq_false_iff_not] at *
             grind [passP, passPh, passW, passQ, passF, followE, isBit])
      · have c1 := ends_spec p ph w q g1
        dsimp only [turnV] at c1
        repeat' first
    | (simp only [op_lenS, lenSV_str, op_lenV, lenV_slice, op_toInt, toIntV_int, op_iaddrS, RetK_inv, RetK_inv_exit, RetK_inv_ret, Nat.add_assoc, Nat.reduceEqDiff, Nat.reduceBEq, Nat.reduceBNe, Nat.le_min, Nat.le_add_right, Nat.min_self, Int.reduceBEq, Int.reduceBNe, Int.reduceLT, Int.reduceLE, Int.reduceEq, beq_self_eq_true, bne_self_eq_false, Bool.not_true, Bool.not_false, decide_true, decide_false, decide_eq_true_eq, Bool.and_eq_true, List.mapM_cons, List.mapM_nil, Option.bind_eq_bind, Option.pure_def, aeqK_agg, aeqK_scal, leavesK_nil, leavesK_cons, leafK_i, leafK_b, leafK_s, DrawK_nil, DrawK_cons, DrawK_guard, DResK_some, DGuardK_tt, DGuardK_ff, DGuardK_tf, DGuardK_ft, DGuardK_u, kept_load, Kept, KeptOne, closeOp, CO.quiet, CO.reads, CodeK_seq, CodeK_region, CodeK_skip, CodeK_ret, CodeK_exit, CodeK_cond, CodeK_block, CondK_true, CondK_false, RunK_cons, RunK_nil, RunK_guard, GuardK_tt, GuardK_ff, GuardK_tf, GuardK_ft, GuardK_u, ResK_some, RetK_nil, RetK_seq, RetK_seq_exit, RetK_seq_ret, RetK_block, RetK_block_ret, RetK_block_exit, RetK_block_exit_ne, op_mv, op_un, op_bin, op_load, loadV_ptr, op_faddr, faddrV_ptr, op_pick, pickV_true, pickV_false, pickV_bool, pickV_same, op_box, boxV_agg, op_call, op_build, op_ext, op_alloc, op_store, storeV_ptr, List.all_cons, List.all_nil, AV.one, AV.cells, Bool.and_self, Bool.and_true, Bool.true_and, put, CA.ev, List.set_cons_zero, List.set_cons_succ, List.getD_cons_zero, List.getD_cons_succ, abin, aint, aun, isShift, Option.map_some, Option.bind_some, List.map_cons, List.map_nil, Hp.n_withLow, Hp.n_push, Hp.n_set, Hp.low_withLow, Hp.low_push, Hp.low_set, Hp.get_push, Hp.get_set, Hp.get_withLow, readVar, readCell, readCells, writeCells, over, cut, fillA, Bool.false_eq_true, if_false, if_true, reduceIte, List.getElem?_cons_zero, List.getElem?_cons_succ, Nat.zero_add, Nat.add_zero, Nat.reduceAdd, Nat.reduceSub, Nat.reduceLT, Nat.reduceLeDiff, Nat.reduceEqDiff, List.length_cons, List.length_nil, List.take_succ_cons, List.take_zero, List.drop_zero, List.drop_succ_cons, List.cons_append, List.nil_append, List.append_nil, DoneK, resAll, resOne, AV.under, AV.unders, and_true, true_and, and_self, or_true, true_or, cond_true, cond_false, Nat.le_refl, Nat.add_eq_left, Nat.left_eq_add, Nat.add_right_cancel_iff, Nat.add_left_cancel_iff, el, e1, e2', e3, e7, e11, e12, hg, c1, tmset_self, tmset_ne, List.length_set, *])
    | (refine GuardK_split (fun hb => ?_) (fun hb => ?_))
    | (refine CondK_split (fun hb => ?_) (fun hb => ?_))
    | (refine CodeK_regionD _ ?_)
    | (refine DGuardK_split (fun hb => ?_) (fun hb => ?_))
        all_goals (exfalso; simp only [decide_eq_true_eq] at *; omega)

theorem u8s_of {h : AH} {v : AV} {xs : List Int} (hi : Ints .u8 h v xs) : U8s h v xs := hi

theorem turn_shape {H : Type} {enc : TypeId × Value → H} {W : World} {v : Value} {d : DataW H} {ps : List MemPlace} (h : DataW.Trod enc Try.prog W 0 (fun _ => true) true 61 v d ps) :
    ∃ p ph w q, d = .agg [.lit (.int .i64 p), .lit (.int .u8 ph), .lit (.int .i64 w), .lit (.int .i64 q)] ∧ i64 p ∧ i64 w ∧ i64 q ∧ 0 ≤ ph ∧ ph ≤ 255 := by
  obtain ⟨fuel, h⟩ := h
  obtain ⟨f, xs, rfl, hx⟩ := trod_struct Try.underlying61 h
  simp only [List.mapM_cons, List.mapM_nil, Option.bind_eq_bind, Option.bind_eq_some_iff, Option.pure_def, Option.some.injEq] at hx
  obtain ⟨a, ha, b', ⟨b, hb, c', ⟨c, hc, d', ⟨d, hd, _, rfl, rfl⟩, rfl⟩, rfl⟩, rfl⟩ := hx
  obtain ⟨p, h1, h2⟩ := trod_int (d := a.1) (ps := a.2) Try.underlying3 ha
  obtain ⟨ph, h3, h4⟩ := trod_int (d := b.1) (ps := b.2) Try.underlying59 hb
  obtain ⟨w, h5, h6⟩ := trod_int (d := c.1) (ps := c.2) Try.underlying3 hc
  obtain ⟨q, h7, h8⟩ := trod_int (d := d.1) (ps := d.2) Try.underlying3 hd
  exact ⟨p, ph, w, q, by simp [h1, h3, h5, h7], h2, h6, h8, h4.1, h4.2⟩

end Go.Proofs.Turn
namespace Go.Proofs.Ytnhkllnggpncfaa.turnRounds
open Go Go.Fs Go.Proofs.Turn Go.ChangeShapes

theorem own : ownKnob Try.prog.godebug = none := by kernel_rfl
theorem mixed : Try.prog.follows .mixedOrders = true := by kernel_rfl
theorem laid : laidOutB Try.prog = true := by kernel_rfl
theorem cells5 : Try.prog.cellsOf 5 = 1 := by kernel_rfl

theorem absd {H : Type} (p ph w q : Int) (h : AH) : absArg (H := H) Try.prog (fun _ => false) 5 61 (.agg [.lit (.int .i64 p), .lit (.int .u8 ph), .lit (.int .i64 w), .lit (.int .i64 q)]) h = some (turnV p ph w q, h) := by kernel_rfl

set_option maxRecDepth 100000 in
theorem lifted (os : Os) (started : os.Started) (H : Type) (enc : TypeId × Value → H) :
    ReturnsInHanded {} Try.checked os 6 .any (Rows.turnRoundsSpec.pre6 enc Try.prog Try.f6 Rows.turnRoundsRow.domain false) (Rows.turnRoundsSpec.post enc Try.prog Try.f6 false true false false) := by
  refine returnsInHanded_of_change (C := Try.checked) own started (by kernel_rfl) Try.func6
    (ChangeSpec.witness6 (enc := enc) (C := Try.checked) false ⟨#[], #[.agg #[.int .i64 0, .int .u8 0, .int .i64 0, .int .i64 0], .slice none 0 0, .slice none 0 0], []⟩ 8 (by kernel_rfl) (by kernel_rfl) (by kernel_rfl) (by kernel_rfl)) ?_
  intro W base args ds gs before hval hW _ _
  refine law_contract (tb := 4) (opq := fun _ => false) (fuel := 5) mixed (good_orcPure mixed 60 [32, 37]) laid (by kernel_rfl) rfl Try.underlying4 rfl ?_ W base args ds gs before hval hW
  intro W args ds p hA
  rw [Try.params6] at hA ⊢
  obtain ⟨v1, v2, v3, d1, d2, d3, p1, p2, p3, _, rfl, _, h1, ⟨f2, h2⟩, ⟨f3, h3⟩⟩ := trodAll_three hA
  obtain ⟨p, ph, w, q, rfl, hp, hw, hq, _⟩ := turn_shape h1
  obtain ⟨u1, k1, xs1, a1, i1, n1, o1, _⟩ := absArg_ints (P := Try.prog) (opq := fun _ => false) (f := 3) Try.underlying62 Try.underlying5 cells5 rfl (trod_ints Try.underlying62 Try.underlying5 h2) (Fs.start Try.prog.globals.size)
  obtain ⟨u2, k2, xs2, a2, i2, n2, o2, _⟩ := absArg_ints (P := Try.prog) (opq := fun _ => false) (f := 3) Try.underlying62 Try.underlying5 cells5 rfl (trod_ints Try.underlying62 Try.underlying5 h3) k1
  refine ⟨rfl, [turnV p ph w q, u1, u2], k2, k2, ?_, rounds_spec p ph w q xs1 xs2 u1 u2 hp hw hq k2 (i1.mono n2 o2) i2⟩
  simp only [absArgs, absd, Option.bind_some, a1, a2, Option.map_some]

theorem over : Rows.turnRoundsRow.holds Try.pinned (OpenSpec.ofChange Rows.turnRoundsSpec) :=
  OpenClaim.holds_of_wide 6 Try.f6 rfl rfl rfl rfl rfl rfl rfl ⟨rfl, rfl, rfl, rfl, rfl⟩ rfl rfl rfl rfl rfl (by kernel_rfl) Try.func6 (by kernel_rfl)
    (of_decide_eq_true (by kernel_rfl)) (by unfold Func.isWrapper; first | (rw [if_pos (by decide +kernel)]; kernel_rfl) | (rw [if_neg (by decide +kernel)]; exact ⟨rfl, rfl⟩))
    (fun os started H enc _ => lifted os started H enc)

/-- The statement. -/
theorem proved : Rows.TurnRoundsSaid := over
#print axioms proved
end Go.Proofs.Ytnhkllnggpncfaa.turnRounds
