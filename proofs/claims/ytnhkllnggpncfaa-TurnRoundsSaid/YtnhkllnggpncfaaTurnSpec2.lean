/- What Begin, Struck, Played, Pass come to, and what the document's answer for all of the turn's functions comes to: the same. -/
import Derived.Test.YtnhkllnggpncfaaTurnSpec
namespace Go.Proofs.Turn
open Go Go.Fs
set_option linter.unusedSimpArgs false
variable {orc : Orc}

def z (b : Bool) (n : Int) : Int := if b then n else 0
def e2 (b : Bool) : Int := if b then 0 else 2
def beginV (n : Int) : AV := .tuple [turnV (z (isBit n) n) (z (isBit n) 1) (z (isBit n) n) 0, .int .i64 (e2 (isBit n))]

theorem begin_spec (ho : orc 72 = none) (ho2 : orc 52 = none) (n : Int) (hn : i64 n) (h : AH) : acall orc T 52 [.int .i64 n] h = some (beginV n, h) := by
  refine acall_sym ho2 tbl52 ?_
  have b1 := bit_spec ho _ hn
  dsimp only [List.length, List.replicate, List.append, List.cons_append, List.nil_append, Nat.reduceAdd, Nat.reduceSub, turnV, beginV]
  repeat' first
    | (simp only [Nat.reduceBEq, Nat.reduceBNe, Nat.le_min, Nat.le_add_right, Nat.min_self, Int.reduceBEq, Int.reduceBNe, Int.reduceLT, Int.reduceLE, Int.reduceEq, beq_self_eq_true, bne_self_eq_false, Bool.not_true, Bool.not_false, decide_true, decide_false, decide_eq_true_eq, Bool.and_eq_true, List.mapM_cons, List.mapM_nil, Option.bind_eq_bind, Option.pure_def, aeqK_agg, aeqK_scal, leavesK_nil, leavesK_cons, leafK_i, leafK_b, leafK_s, DrawK_nil, DrawK_cons, DrawK_guard, DResK_some, DGuardK_tt, DGuardK_ff, DGuardK_tf, DGuardK_ft, DGuardK_u, kept_load, Kept, KeptOne, closeOp, CO.quiet, CO.reads, CodeK_seq, CodeK_region, CodeK_skip, CodeK_ret, CodeK_exit, CodeK_cond, CodeK_block, CondK_true, CondK_false, RunK_cons, RunK_nil, RunK_guard, GuardK_tt, GuardK_ff, GuardK_tf, GuardK_ft, GuardK_u, ResK_some, RetK_nil, RetK_seq, RetK_seq_exit, RetK_seq_ret, RetK_block, RetK_block_ret, RetK_block_exit, RetK_block_exit_ne, op_mv, op_un, op_bin, op_load, loadV_ptr, op_faddr, faddrV_ptr, op_pick, pickV_true, pickV_false, pickV_bool, pickV_same, op_box, boxV_agg, op_call, op_build, op_ext, op_alloc, op_store, storeV_ptr, List.all_cons, List.all_nil, AV.one, AV.cells, Bool.and_self, Bool.and_true, Bool.true_and, put, CA.ev, List.set_cons_zero, List.set_cons_succ, List.getD_cons_zero, List.getD_cons_succ, abin, aint, aun, isShift, Option.map_some, Option.bind_some, List.map_cons, List.map_nil, Hp.n_withLow, Hp.n_push, Hp.n_set, Hp.low_withLow, Hp.low_push, Hp.low_set, Hp.get_push, Hp.get_set, Hp.get_withLow, readVar, readCell, readCells, writeCells, over, cut, fillA, Bool.false_eq_true, if_false, if_true, reduceIte, List.getElem?_cons_zero, List.getElem?_cons_succ, Nat.zero_add, Nat.add_zero, Nat.reduceAdd, Nat.reduceSub, Nat.reduceLT, Nat.reduceLeDiff, Nat.reduceEqDiff, List.length_cons, List.length_nil, List.take_succ_cons, List.take_zero, List.drop_zero, List.drop_succ_cons, List.cons_append, List.nil_append, List.append_nil, DoneK, resAll, resOne, AV.under, AV.unders, and_true, true_and, and_self, or_true, true_or, cond_true, cond_false, Nat.le_refl, Nat.add_eq_left, Nat.left_eq_add, Nat.add_right_cancel_iff, Nat.add_left_cancel_iff, b1, *])
    | (refine GuardK_split (fun hb => ?_) (fun hb => ?_))
    | (refine CondK_split (fun hb => ?_) (fun hb => ?_))
    | (refine CodeK_regionD _ ?_)
    | (refine DGuardK_split (fun hb => ?_) (fun hb => ?_))
  all_goals simp_all [z, e2]

def struckV (p ph w q : Int) : AV := .tuple [turnV (z (turnOk p ph w q) p) (z (turnOk p ph w q) ph) (z (turnOk p ph w q) w) 0, .int .i64 (e2 (turnOk p ph w q))]

theorem struck_spec (ho : orc 72 = none) (ho2 : orc 33 = none) (ho3 : orc 36 = none) (p ph w q : Int) (hp : i64 p) (hw : i64 w) (hq : i64 q) (h : AH) :
    acall orc T 36 [turnV p ph w q] h = some (struckV p ph w q, h) := by
  refine acall_sym ho3 tbl36 ?_
  have b1 := check_spec ho ho2 p ph w q hp hw hq
  dsimp only [List.length, List.replicate, List.append, List.cons_append, List.nil_append, Nat.reduceAdd, Nat.reduceSub, turnV, struckV] at b1 ⊢
  repeat' first
    | (simp only [Nat.reduceBEq, Nat.reduceBNe, Nat.le_min, Nat.le_add_right, Nat.min_self, Int.reduceBEq, Int.reduceBNe, Int.reduceLT, Int.reduceLE, Int.reduceEq, beq_self_eq_true, bne_self_eq_false, Bool.not_true, Bool.not_false, decide_true, decide_false, decide_eq_true_eq, Bool.and_eq_true, List.mapM_cons, List.mapM_nil, Option.bind_eq_bind, Option.pure_def, aeqK_agg, aeqK_scal, leavesK_nil, leavesK_cons, leafK_i, leafK_b, leafK_s, DrawK_nil, DrawK_cons, DrawK_guard, DResK_some, DGuardK_tt, DGuardK_ff, DGuardK_tf, DGuardK_ft, DGuardK_u, kept_load, Kept, KeptOne, closeOp, CO.quiet, CO.reads, CodeK_seq, CodeK_region, CodeK_skip, CodeK_ret, CodeK_exit, CodeK_cond, CodeK_block, CondK_true, CondK_false, RunK_cons, RunK_nil, RunK_guard, GuardK_tt, GuardK_ff, GuardK_tf, GuardK_ft, GuardK_u, ResK_some, RetK_nil, RetK_seq, RetK_seq_exit, RetK_seq_ret, RetK_block, RetK_block_ret, RetK_block_exit, RetK_block_exit_ne, op_mv, op_un, op_bin, op_load, loadV_ptr, op_faddr, faddrV_ptr, op_pick, pickV_true, pickV_false, pickV_bool, pickV_same, op_box, boxV_agg, op_call, op_build, op_ext, op_alloc, op_store, storeV_ptr, List.all_cons, List.all_nil, AV.one, AV.cells, Bool.and_self, Bool.and_true, Bool.true_and, put, CA.ev, List.set_cons_zero, List.set_cons_succ, List.getD_cons_zero, List.getD_cons_succ, abin, aint, aun, isShift, Option.map_some, Option.bind_some, List.map_cons, List.map_nil, Hp.n_withLow, Hp.n_push, Hp.n_set, Hp.low_withLow, Hp.low_push, Hp.low_set, Hp.get_push, Hp.get_set, Hp.get_withLow, readVar, readCell, readCells, writeCells, over, cut, fillA, Bool.false_eq_true, if_false, if_true, reduceIte, List.getElem?_cons_zero, List.getElem?_cons_succ, Nat.zero_add, Nat.add_zero, Nat.reduceAdd, Nat.reduceSub, Nat.reduceLT, Nat.reduceLeDiff, Nat.reduceEqDiff, List.length_cons, List.length_nil, List.take_succ_cons, List.take_zero, List.drop_zero, List.drop_succ_cons, List.cons_append, List.nil_append, List.append_nil, DoneK, resAll, resOne, AV.under, AV.unders, and_true, true_and, and_self, or_true, true_or, cond_true, cond_false, Nat.le_refl, Nat.add_eq_left, Nat.left_eq_add, Nat.add_right_cancel_iff, Nat.add_left_cancel_iff, b1, *])
    | (refine GuardK_split (fun hb => ?_) (fun hb => ?_))
    | (refine CondK_split (fun hb => ?_) (fun hb => ?_))
    | (refine CodeK_regionD _ ?_)
    | (refine DGuardK_split (fun hb => ?_) (fun hb => ?_))
  all_goals simp_all [z, e2, checkE]

theorem xor_bit {n : Int} (h : isBit n = true) : bits .xor .i64 n 1 = 1 - n := by
  simp only [isBit, decide_eq_true_eq] at h
  rcases h with rfl | rfl <;> decide
theorem sub_bit {n : Int} (h : isBit n = true) : IntKind.wrap .i64 (1 - n) = 1 - n := by
  simp only [isBit, decide_eq_true_eq] at h
  rcases h with rfl | rfl <;> decide
theorem phase_bit {n : Int} (h : n = 1 ∨ n = 2) : IntKind.wrap .u8 (3 - n) = 3 - n := by
  rcases h with rfl | rfl <;> decide
theorem ok_parts {p ph w q : Int} (h : turnOk p ph w q = true) : isBit p = true ∧ isBit w = true ∧ isBit q = true ∧ (ph = 1 ∨ ph = 2) := by
  simp only [turnOk, Bool.and_eq_true, Bool.or_eq_true, beq_iff_eq] at h
  exact ⟨h.1.1.1, h.1.1.2, h.1.2, h.2⟩

def playedV (p ph w q : Int) : AV := .tuple [turnV (z (turnOk p ph w q) p) (z (turnOk p ph w q) ph) (z (turnOk p ph w q) (1 - w)) 0, .int .i64 (e2 (turnOk p ph w q))]

theorem played_spec (ho : orc 72 = none) (ho2 : orc 33 = none) (ho3 : orc 36 = none) (ho4 : orc 35 = none) (p ph w q : Int) (hp : i64 p) (hw : i64 w) (hq : i64 q) (h : AH) :
    acall orc T 35 [turnV p ph w q] h = some (playedV p ph w q, h) := by
  refine acall_sym ho4 tbl35 ?_
  have b1 := struck_spec ho ho2 ho3 p ph w q hp hw hq
  cases hk : turnOk p ph w q with
  | false =>
    dsimp only [List.length, List.replicate, List.append, List.cons_append, List.nil_append, Nat.reduceAdd, Nat.reduceSub, turnV, playedV, struckV, z, e2] at b1 ⊢
    rw [hk] at b1 ⊢
    repeat' first
    | (simp only [Nat.reduceBEq, Nat.reduceBNe, Nat.le_min, Nat.le_add_right, Nat.min_self, Int.reduceBEq, Int.reduceBNe, Int.reduceLT, Int.reduceLE, Int.reduceEq, beq_self_eq_true, bne_self_eq_false, Bool.not_true, Bool.not_false, decide_true, decide_false, decide_eq_true_eq, Bool.and_eq_true, List.mapM_cons, List.mapM_nil, Option.bind_eq_bind, Option.pure_def, aeqK_agg, aeqK_scal, leavesK_nil, leavesK_cons, leafK_i, leafK_b, leafK_s, DrawK_nil, DrawK_cons, DrawK_guard, DResK_some, DGuardK_tt, DGuardK_ff, DGuardK_tf, DGuardK_ft, DGuardK_u, kept_load, Kept, KeptOne, closeOp, CO.quiet, CO.reads, CodeK_seq, CodeK_region, CodeK_skip, CodeK_ret, CodeK_exit, CodeK_cond, CodeK_block, CondK_true, CondK_false, RunK_cons, RunK_nil, RunK_guard, GuardK_tt, GuardK_ff, GuardK_tf, GuardK_ft, GuardK_u, ResK_some, RetK_nil, RetK_seq, RetK_seq_exit, RetK_seq_ret, RetK_block, RetK_block_ret, RetK_block_exit, RetK_block_exit_ne, op_mv, op_un, op_bin, op_load, loadV_ptr, op_faddr, faddrV_ptr, op_pick, pickV_true, pickV_false, pickV_bool, pickV_same, op_box, boxV_agg, op_call, op_build, op_ext, op_alloc, op_store, storeV_ptr, List.all_cons, List.all_nil, AV.one, AV.cells, Bool.and_self, Bool.and_true, Bool.true_and, put, CA.ev, List.set_cons_zero, List.set_cons_succ, List.getD_cons_zero, List.getD_cons_succ, abin, aint, aun, isShift, Option.map_some, Option.bind_some, List.map_cons, List.map_nil, Hp.n_withLow, Hp.n_push, Hp.n_set, Hp.low_withLow, Hp.low_push, Hp.low_set, Hp.get_push, Hp.get_set, Hp.get_withLow, readVar, readCell, readCells, writeCells, over, cut, fillA, Bool.false_eq_true, if_false, if_true, reduceIte, List.getElem?_cons_zero, List.getElem?_cons_succ, Nat.zero_add, Nat.add_zero, Nat.reduceAdd, Nat.reduceSub, Nat.reduceLT, Nat.reduceLeDiff, Nat.reduceEqDiff, List.length_cons, List.length_nil, List.take_succ_cons, List.take_zero, List.drop_zero, List.drop_succ_cons, List.cons_append, List.nil_append, List.append_nil, DoneK, resAll, resOne, AV.under, AV.unders, and_true, true_and, and_self, or_true, true_or, cond_true, cond_false, Nat.le_refl, Nat.add_eq_left, Nat.left_eq_add, Nat.add_right_cancel_iff, Nat.add_left_cancel_iff, b1, *])
    | (refine GuardK_split (fun hb => ?_) (fun hb => ?_))
    | (refine CondK_split (fun hb => ?_) (fun hb => ?_))
    | (refine CodeK_regionD _ ?_)
    | (refine DGuardK_split (fun hb => ?_) (fun hb => ?_))
  | true =>
    have hx := xor_bit (ok_parts hk).2.1
    dsimp only [List.length, List.replicate, List.append, List.cons_append, List.nil_append, Nat.reduceAdd, Nat.reduceSub, turnV, playedV, struckV, z, e2] at b1 ⊢
    rw [hk] at b1 ⊢
    repeat' first
    | (simp only [Nat.reduceBEq, Nat.reduceBNe, Nat.le_min, Nat.le_add_right, Nat.min_self, Int.reduceBEq, Int.reduceBNe, Int.reduceLT, Int.reduceLE, Int.reduceEq, beq_self_eq_true, bne_self_eq_false, Bool.not_true, Bool.not_false, decide_true, decide_false, decide_eq_true_eq, Bool.and_eq_true, List.mapM_cons, List.mapM_nil, Option.bind_eq_bind, Option.pure_def, aeqK_agg, aeqK_scal, leavesK_nil, leavesK_cons, leafK_i, leafK_b, leafK_s, DrawK_nil, DrawK_cons, DrawK_guard, DResK_some, DGuardK_tt, DGuardK_ff, DGuardK_tf, DGuardK_ft, DGuardK_u, kept_load, Kept, KeptOne, closeOp, CO.quiet, CO.reads, CodeK_seq, CodeK_region, CodeK_skip, CodeK_ret, CodeK_exit, CodeK_cond, CodeK_block, CondK_true, CondK_false, RunK_cons, RunK_nil, RunK_guard, GuardK_tt, GuardK_ff, GuardK_tf, GuardK_ft, GuardK_u, ResK_some, RetK_nil, RetK_seq, RetK_seq_exit, RetK_seq_ret, RetK_block, RetK_block_ret, RetK_block_exit, RetK_block_exit_ne, op_mv, op_un, op_bin, op_load, loadV_ptr, op_faddr, faddrV_ptr, op_pick, pickV_true, pickV_false, pickV_bool, pickV_same, op_box, boxV_agg, op_call, op_build, op_ext, op_alloc, op_store, storeV_ptr, List.all_cons, List.all_nil, AV.one, AV.cells, Bool.and_self, Bool.and_true, Bool.true_and, put, CA.ev, List.set_cons_zero, List.set_cons_succ, List.getD_cons_zero, List.getD_cons_succ, abin, aint, aun, isShift, Option.map_some, Option.bind_some, List.map_cons, List.map_nil, Hp.n_withLow, Hp.n_push, Hp.n_set, Hp.low_withLow, Hp.low_push, Hp.low_set, Hp.get_push, Hp.get_set, Hp.get_withLow, readVar, readCell, readCells, writeCells, over, cut, fillA, Bool.false_eq_true, if_false, if_true, reduceIte, List.getElem?_cons_zero, List.getElem?_cons_succ, Nat.zero_add, Nat.add_zero, Nat.reduceAdd, Nat.reduceSub, Nat.reduceLT, Nat.reduceLeDiff, Nat.reduceEqDiff, List.length_cons, List.length_nil, List.take_succ_cons, List.take_zero, List.drop_zero, List.drop_succ_cons, List.cons_append, List.nil_append, List.append_nil, DoneK, resAll, resOne, AV.under, AV.unders, and_true, true_and, and_self, or_true, true_or, cond_true, cond_false, Nat.le_refl, Nat.add_eq_left, Nat.left_eq_add, Nat.add_right_cancel_iff, Nat.add_left_cancel_iff, hx, b1, *])
    | (refine GuardK_split (fun hb => ?_) (fun hb => ?_))
    | (refine CondK_split (fun hb => ?_) (fun hb => ?_))
    | (refine CodeK_regionD _ ?_)
    | (refine DGuardK_split (fun hb => ?_) (fun hb => ?_))

def followE (ph items : Int) : Int := if items ≠ 0 then 2 else if ph = 1 then 3 else 4
theorem follow_spec (ho : orc 74 = none) (p ph w q items : Int) (h : AH) : acall orc T 74 [turnV p ph w q, .int .i64 items] h = some (.int .u8 (followE ph items), h) := by
  refine acall_sym ho tbl74 ?_
  dsimp only [List.length, List.replicate, List.append, List.cons_append, List.nil_append, Nat.reduceAdd, Nat.reduceSub, turnV]
  repeat' first
    | (simp only [Nat.reduceBEq, Nat.reduceBNe, Nat.le_min, Nat.le_add_right, Nat.min_self, Int.reduceBEq, Int.reduceBNe, Int.reduceLT, Int.reduceLE, Int.reduceEq, beq_self_eq_true, bne_self_eq_false, Bool.not_true, Bool.not_false, decide_true, decide_false, decide_eq_true_eq, Bool.and_eq_true, List.mapM_cons, List.mapM_nil, Option.bind_eq_bind, Option.pure_def, aeqK_agg, aeqK_scal, leavesK_nil, leavesK_cons, leafK_i, leafK_b, leafK_s, DrawK_nil, DrawK_cons, DrawK_guard, DResK_some, DGuardK_tt, DGuardK_ff, DGuardK_tf, DGuardK_ft, DGuardK_u, kept_load, Kept, KeptOne, closeOp, CO.quiet, CO.reads, CodeK_seq, CodeK_region, CodeK_skip, CodeK_ret, CodeK_exit, CodeK_cond, CodeK_block, CondK_true, CondK_false, RunK_cons, RunK_nil, RunK_guard, GuardK_tt, GuardK_ff, GuardK_tf, GuardK_ft, GuardK_u, ResK_some, RetK_nil, RetK_seq, RetK_seq_exit, RetK_seq_ret, RetK_block, RetK_block_ret, RetK_block_exit, RetK_block_exit_ne, op_mv, op_un, op_bin, op_load, loadV_ptr, op_faddr, faddrV_ptr, op_pick, pickV_true, pickV_false, pickV_bool, pickV_same, op_box, boxV_agg, op_call, op_build, op_ext, op_alloc, op_store, storeV_ptr, List.all_cons, List.all_nil, AV.one, AV.cells, Bool.and_self, Bool.and_true, Bool.true_and, put, CA.ev, List.set_cons_zero, List.set_cons_succ, List.getD_cons_zero, List.getD_cons_succ, abin, aint, aun, isShift, Option.map_some, Option.bind_some, List.map_cons, List.map_nil, Hp.n_withLow, Hp.n_push, Hp.n_set, Hp.low_withLow, Hp.low_push, Hp.low_set, Hp.get_push, Hp.get_set, Hp.get_withLow, readVar, readCell, readCells, writeCells, over, cut, fillA, Bool.false_eq_true, if_false, if_true, reduceIte, List.getElem?_cons_zero, List.getElem?_cons_succ, Nat.zero_add, Nat.add_zero, Nat.reduceAdd, Nat.reduceSub, Nat.reduceLT, Nat.reduceLeDiff, Nat.reduceEqDiff, List.length_cons, List.length_nil, List.take_succ_cons, List.take_zero, List.drop_zero, List.drop_succ_cons, List.cons_append, List.nil_append, List.append_nil, DoneK, resAll, resOne, AV.under, AV.unders, and_true, true_and, and_self, or_true, true_or, cond_true, cond_false, Nat.le_refl, Nat.add_eq_left, Nat.left_eq_add, Nat.add_right_cancel_iff, Nat.add_left_cancel_iff, *])
    | (refine GuardK_split (fun hb => ?_) (fun hb => ?_))
    | (refine CondK_split (fun hb => ?_) (fun hb => ?_))
    | (refine CodeK_regionD _ ?_)
    | (refine DGuardK_split (fun hb => ?_) (fun hb => ?_))
  all_goals simp_all [followE]

def passOk (p ph w q items : Int) : Bool := turnOk p ph w q && decide (0 ≤ items) && decide (items ≤ 24)
def passP (p ph q items : Int) : Int := if q = 0 ∨ items ≠ 0 ∨ ph = 1 then p else 1 - p
def passPh (ph q items : Int) : Int := if q = 0 ∨ items ≠ 0 then ph else 3 - ph
def passW (p ph w q items : Int) : Int := if q = 0 then 1 - w else passP p ph q items
def passQ (q : Int) : Int := if q = 0 then 1 else 0
def passF (ph q items : Int) : Int := if q = 0 then 1 else followE ph items
def passV (p ph w q items : Int) : AV :=
  .tuple [turnV (z (passOk p ph w q items) (passP p ph q items)) (z (passOk p ph w q items) (passPh ph q items)) (z (passOk p ph w q items) (passW p ph w q items)) (z (passOk p ph w q items) (passQ q)),
    .int .u8 (z (passOk p ph w q items) (passF ph q items)), .int .i64 (e2 (passOk p ph w q items))]

theorem asked_pass (p ph w q items : Int) : askedE p ph w q 0 items = e2 (passOk p ph w q items) := by
  have h0 : isBit 0 = true := rfl
  unfold askedE checkE passOk e2
  rw [h0]
  by_cases hb : turnOk p ph w q = true
  · simp only [hb, Bool.true_and, if_true, Bool.and_eq_true, decide_eq_true_eq, Bool.true_eq_false, false_or]
    split <;> split <;> omega
  · have hb : turnOk p ph w q = false := by simpa using hb
    simp [hb]

theorem pass_spec (ho : orc 72 = none) (ho2 : orc 33 = none) (ho3 : orc 73 = none) (ho4 : orc 74 = none) (ho5 : orc 34 = none) (p ph w q items : Int) (hp : i64 p) (hw : i64 w) (hq : i64 q) (h : AH) :
    acall orc T 34 [turnV p ph w q, .int .i64 items] h = some (passV p ph w q items, h) := by
  refine acall_sym ho5 tbl34 ?_
  have b1 := asked_spec ho ho2 ho3 p ph w q 0 items hp hw hq (by constructor <;> decide)
  rw [asked_pass] at b1
  have b2 := follow_spec ho4 (orc := orc)
  cases hk : passOk p ph w q items with
  | false =>
    dsimp only [List.length, List.replicate, List.append, List.cons_append, List.nil_append, Nat.reduceAdd, Nat.reduceSub, turnV, passV] at b1 b2 ⊢
    rw [hk] at b1 ⊢
    dsimp only [z, e2] at b1 ⊢
    repeat' first
    | (simp only [Nat.reduceBEq, Nat.reduceBNe, Nat.le_min, Nat.le_add_right, Nat.min_self, Int.reduceBEq, Int.reduceBNe, Int.reduceLT, Int.reduceLE, Int.reduceEq, beq_self_eq_true, bne_self_eq_false, Bool.not_true, Bool.not_false, decide_true, decide_false, decide_eq_true_eq, Bool.and_eq_true, List.mapM_cons, List.mapM_nil, Option.bind_eq_bind, Option.pure_def, aeqK_agg, aeqK_scal, leavesK_nil, leavesK_cons, leafK_i, leafK_b, leafK_s, DrawK_nil, DrawK_cons, DrawK_guard, DResK_some, DGuardK_tt, DGuardK_ff, DGuardK_tf, DGuardK_ft, DGuardK_u, kept_load, Kept, KeptOne, closeOp, CO.quiet, CO.reads, CodeK_seq, CodeK_region, CodeK_skip, CodeK_ret, CodeK_exit, CodeK_cond, CodeK_block, CondK_true, CondK_false, RunK_cons, RunK_nil, RunK_guard, GuardK_tt, GuardK_ff, GuardK_tf, GuardK_ft, GuardK_u, ResK_some, RetK_nil, RetK_seq, RetK_seq_exit, RetK_seq_ret, RetK_block, RetK_block_ret, RetK_block_exit, RetK_block_exit_ne, op_mv, op_un, op_bin, op_load, loadV_ptr, op_faddr, faddrV_ptr, op_pick, pickV_true, pickV_false, pickV_bool, pickV_same, op_box, boxV_agg, op_call, op_build, op_ext, op_alloc, op_store, storeV_ptr, List.all_cons, List.all_nil, AV.one, AV.cells, Bool.and_self, Bool.and_true, Bool.true_and, put, CA.ev, List.set_cons_zero, List.set_cons_succ, List.getD_cons_zero, List.getD_cons_succ, abin, aint, aun, isShift, Option.map_some, Option.bind_some, List.map_cons, List.map_nil, Hp.n_withLow, Hp.n_push, Hp.n_set, Hp.low_withLow, Hp.low_push, Hp.low_set, Hp.get_push, Hp.get_set, Hp.get_withLow, readVar, readCell, readCells, writeCells, over, cut, fillA, Bool.false_eq_true, if_false, if_true, reduceIte, List.getElem?_cons_zero, List.getElem?_cons_succ, Nat.zero_add, Nat.add_zero, Nat.reduceAdd, Nat.reduceSub, Nat.reduceLT, Nat.reduceLeDiff, Nat.reduceEqDiff, List.length_cons, List.length_nil, List.take_succ_cons, List.take_zero, List.drop_zero, List.drop_succ_cons, List.cons_append, List.nil_append, List.append_nil, DoneK, resAll, resOne, AV.under, AV.unders, and_true, true_and, and_self, or_true, true_or, cond_true, cond_false, Nat.le_refl, Nat.add_eq_left, Nat.left_eq_add, Nat.add_right_cancel_iff, Nat.add_left_cancel_iff, b1, *])
    | (refine GuardK_split (fun hb => ?_) (fun hb => ?_))
    | (refine CondK_split (fun hb => ?_) (fun hb => ?_))
    | (refine CodeK_regionD _ ?_)
    | (refine DGuardK_split (fun hb => ?_) (fun hb => ?_))
  | true =>
    have hk2 := hk
    simp only [passOk, Bool.and_eq_true] at hk2
    obtain ⟨g1, g2, g3, g4⟩ := ok_parts hk2.1.1
    have hx := xor_bit g2
    have hy := xor_bit g1
    have hz := phase_bit g4
    have hz3 : IntKind.wrap .u8 3 = 3 := by decide
    rw [hk] at b1
    dsimp only [List.length, List.replicate, List.append, List.cons_append, List.nil_append, Nat.reduceAdd, Nat.reduceSub, turnV, passV] at b1 b2 ⊢
    rw [hk]
    dsimp only [z, e2] at b1 ⊢
    repeat' first
    | (simp only [Nat.reduceBEq, Nat.reduceBNe, Nat.le_min, Nat.le_add_right, Nat.min_self, Int.reduceBEq, Int.reduceBNe, Int.reduceLT, Int.reduceLE, Int.reduceEq, beq_self_eq_true, bne_self_eq_false, Bool.not_true, Bool.not_false, decide_true, decide_false, decide_eq_true_eq, Bool.and_eq_true, List.mapM_cons, List.mapM_nil, Option.bind_eq_bind, Option.pure_def, aeqK_agg, aeqK_scal, leavesK_nil, leavesK_cons, leafK_i, leafK_b, leafK_s, DrawK_nil, DrawK_cons, DrawK_guard, DResK_some, DGuardK_tt, DGuardK_ff, DGuardK_tf, DGuardK_ft, DGuardK_u, kept_load, Kept, KeptOne, closeOp, CO.quiet, CO.reads, CodeK_seq, CodeK_region, CodeK_skip, CodeK_ret, CodeK_exit, CodeK_cond, CodeK_block, CondK_true, CondK_false, RunK_cons, RunK_nil, RunK_guard, GuardK_tt, GuardK_ff, GuardK_tf, GuardK_ft, GuardK_u, ResK_some, RetK_nil, RetK_seq, RetK_seq_exit, RetK_seq_ret, RetK_block, RetK_block_ret, RetK_block_exit, RetK_block_exit_ne, op_mv, op_un, op_bin, op_load, loadV_ptr, op_faddr, faddrV_ptr, op_pick, pickV_true, pickV_false, pickV_bool, pickV_same, op_box, boxV_agg, op_call, op_build, op_ext, op_alloc, op_store, storeV_ptr, List.all_cons, List.all_nil, AV.one, AV.cells, Bool.and_self, Bool.and_true, Bool.true_and, put, CA.ev, List.set_cons_zero, List.set_cons_succ, List.getD_cons_zero, List.getD_cons_succ, abin, aint, aun, isShift, Option.map_some, Option.bind_some, List.map_cons, List.map_nil, Hp.n_withLow, Hp.n_push, Hp.n_set, Hp.low_withLow, Hp.low_push, Hp.low_set, Hp.get_push, Hp.get_set, Hp.get_withLow, readVar, readCell, readCells, writeCells, over, cut, fillA, Bool.false_eq_true, if_false, if_true, reduceIte, List.getElem?_cons_zero, List.getElem?_cons_succ, Nat.zero_add, Nat.add_zero, Nat.reduceAdd, Nat.reduceSub, Nat.reduceLT, Nat.reduceLeDiff, Nat.reduceEqDiff, List.length_cons, List.length_nil, List.take_succ_cons, List.take_zero, List.drop_zero, List.drop_succ_cons, List.cons_append, List.nil_append, List.append_nil, DoneK, resAll, resOne, AV.under, AV.unders, and_true, true_and, and_self, or_true, true_or, cond_true, cond_false, Nat.le_refl, Nat.add_eq_left, Nat.left_eq_add, Nat.add_right_cancel_iff, Nat.add_left_cancel_iff, hx, hy, hz, hz3, b1, b2, *])
    | (refine GuardK_split (fun hb => ?_) (fun hb => ?_))
    | (refine CondK_split (fun hb => ?_) (fun hb => ?_))
    | (refine CodeK_regionD _ ?_)
    | (refine DGuardK_split (fun hb => ?_) (fun hb => ?_))
    all_goals (clear b1 b2 hk hk2; simp only [beq_iff_eq, beq_eq_false_iff_ne] at *; grind [passP, passPh, passW, passQ, passF, followE])
end Go.Proofs.Turn
